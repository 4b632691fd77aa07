/- The laws' arguments: lists within lists, opened. Conditions: none. An executor for function bodies of the model over data, part VA: a slice of the caller's own, lent to one that only reads. Conditions: each rule's own. The law ActsFits. Conditions: sizes; numbers are such. -/
import Derived.Test.YtjndellhebidoaaGreatDoorMh
import Derived.Test.YtjndellhebidoaaGreatDoorJb
import Derived.Test.YtjndellhebidoaaGreatDoorPZ
namespace Go.Proofs.YtjndellhebidoaaGreatDoor
open Go Go.Ev Go.RowKit Go.ChangeShapes Go.WideShapes Go.ChangeAt
set_option maxRecDepth 100000
theorem spot_of {W : World} {a : Addr} {u : Value} (h : W.cell? a = some u) : a.spot = none := by
  unfold World.cell? at h
  split at h
  · split at h
    · cases h
    · rename_i hn; simpa using hn
  · cases h
theorem weights_all {H : Type} {P : Program} {e : TypeId} {p : Nat → Bool} : ∀ {l : List (DataW H)}, (DataW.weightsAll P e l).all p = true → ∀ d ∈ l, (d.weights P e).all p = true
  | [], _, d, hd => by cases hd
  | x :: r, h, d, hd => by
    simp only [DataW.weightsAll, List.all_append, Bool.and_eq_true] at h
    rcases List.mem_cons.1 hd with rfl | hd
    · exact h.1
    · exact weights_all h.2 d hd
section
variable {Hh : Type} {enc : TypeId × Value → Hh} {P : Program} {W : World} {base : Nat} {spare : Nat → Bool} {held : Bool}
theorem slice_deep (u : ETy) {Q : u.den → Prop} {t e : TypeId} {fuel : Nat} {cs : List Value} {x : DataW Hh × List MemPlace} (ht : P.underlying t = some (.slice e)) (hsz : P.cellsOf e = u.size)
    (hel : ∀ n cs y, DataW.trod enc P W base spare held n e cs = some y → ∃ r, All2 (PR (HW W)) (u.enc r) cs ∧ ((y.1.weights P e).all (· ≤ reachBytes) = true → Q r)) (h : DataW.trod enc P W base spare held fuel t cs = some x) :
    ∃ (l : List u.den) (v : Value), cs = [v] ∧ PR (HW W) (.lst u l) v ∧ ((x.1.weights P t).all (· ≤ reachBytes) = true → (∀ r ∈ l, Q r) ∧ l.length * P.bytesOf e ≤ reachBytes) := by
  rcases Go.Deep.open_slice ht h with ⟨rfl, rfl⟩ | ⟨a, len, cap, m, n, D, Pl, rfl, _, hl, hm, hmm, rfl, hx⟩
  · exact ⟨[], _, rfl, .emp u none 0 (fun _ => rfl), fun _ => ⟨by simp, by simp⟩⟩
  · have hlen : len ≤ m := by rw [hmm]; split <;> omega
    letI : Inhabited u.den := ⟨u.dflt⟩
    obtain ⟨f, hf⟩ := Go.Deep.choose_lt (α := u.den) (n := len) (p := fun i r => (∃ cs, W.cells? base (a.add (i * u.size)) u.size = some cs ∧ All2 (PR (HW W)) (u.enc r) cs) ∧ (((D i).weights P e).all (· ≤ reachBytes) = true → Q r)) (fun i hi => by
      obtain ⟨cs, h1, h2⟩ := hx i (by omega)
      obtain ⟨r, hr, hq⟩ := hel _ _ _ h2
      rw [hsz] at h1
      exact ⟨r, ⟨cs, h1, hr⟩, hq⟩)
    have hfl : ((List.range len).map f).length = len := by simp
    refine ⟨(List.range len).map f, _, rfl, ?_, ?_⟩
    · rcases Nat.eq_zero_or_pos len with h0 | h0
      · subst h0
        exact .emp u (some a) cap (fun h => by cases h)
      · have hs : a.spot = none := by
          obtain ⟨cs, h1, h2⟩ := (hf 0 h0).1
          obtain ⟨_, hl, hc⟩ := World.cells?_some h1
          have h3 := hc 0 u.size_pos
          rw [Nat.zero_mul] at h3
          have h4 : (0 : Nat) < cs.length := by rw [hl]; exact u.size_pos
          rw [List.getElem?_eq_getElem h4] at h3
          exact spot_of (a := a) (by simpa [Addr.add] using h3)
        have hcell : ∀ i, i < len → ∀ j, j < u.size → ∃ w cells e fr, W.heap[a.block]? = some (.cells cells e fr) ∧ cells[a.off + i * u.size + j]? = some w ∧ ∀ p, (u.enc (f i))[j]? = some p → PR (HW W) p w := by
          intro i hi j hj
          obtain ⟨cs, h1, h2⟩ := (hf i hi).1
          obtain ⟨_, hl, hc⟩ := World.cells?_some h1
          have h3 := hc j hj
          obtain ⟨w, hw⟩ : ∃ w, cs[j]? = some w := ⟨cs[j]'(by omega), List.getElem?_eq_getElem (by omega)⟩
          rw [hw] at h3
          have ha : (a.add (i * u.size)).add j = a.add (i * u.size + j) := by rw [Go.Deep.add_add]
          rw [ha] at h3
          obtain ⟨cells, e', fr, hb, h4⟩ := cell_at hs rfl rfl h3
          refine ⟨w, cells, e', fr, hb, by rw [Nat.add_assoc]; exact h4, fun p hp => ?_⟩
          obtain ⟨w', h5, h6⟩ := h2.get hp
          rw [hw, Option.some.injEq] at h5
          rw [h5]; exact h6
        obtain ⟨_, cells, e', fr, hb, _⟩ := hcell 0 h0 0 u.size_pos
        have hbound : a.off + len * u.size ≤ cells.size := by
          obtain ⟨_, cells', e2, fr2, hb', h4, _⟩ := hcell (len - 1) (by omega) (u.size - 1) (by have := u.size_pos; omega)
          rw [hb] at hb'
          simp only [Option.some.injEq, Obj.cells.injEq] at hb'
          obtain ⟨rfl, _, _⟩ := hb'
          have h5 := (Array.getElem?_eq_some_iff.1 h4).1
          have h6 : len * u.size = (len - 1) * u.size + u.size := by
            have : len = (len - 1) + 1 := by omega
            rw [this, Nat.add_mul, Nat.one_mul]; simp
          have := u.size_pos
          omega
        have key : PR (HW W) (.lst u ((List.range len).map f)) (.slice (some ⟨a.block, a.off, none⟩) ((List.range len).map f).length cap) := by
          refine .lst u _ a.block a.off cap cells e' fr hb (by rw [hfl]; exact hl) hm (by rw [hfl]; exact hbound) ?_
          intro i y hy j p hp w hw
          have hi : i < len := by have := (List.getElem?_eq_some_iff.1 hy).1; omega
          simp only [List.getElem?_map, List.getElem?_range hi, Option.map_some, Option.some.injEq] at hy
          subst hy
          have hj : j < u.size := by have := (List.getElem?_eq_some_iff.1 hp).1; rw [u.enc_length] at this; exact this
          obtain ⟨w', cells', e2, fr2, hb', h4, h5⟩ := hcell i hi j hj
          rw [hb] at hb'
          simp only [Option.some.injEq, Obj.cells.injEq] at hb'
          obtain ⟨rfl, _, _⟩ := hb'
          rw [hw, Option.some.injEq] at h4
          rw [h4]; exact h5 p hp
        rw [hfl] at key
        obtain ⟨b, off, sp⟩ := a
        simp only at hs
        subst hs
        exact key
    · intro hw
      simp only [DataW.weights, ht, List.all_cons, List.all_append, Bool.and_eq_true, decide_eq_true_eq, List.length_map, List.length_range] at hw ⊢
      refine ⟨fun r hr => ?_, Nat.le_trans (Nat.mul_le_mul_right _ (by omega)) hw.1⟩
      obtain ⟨i, hi, rfl⟩ := List.mem_map.1 hr
      exact (hf i (List.mem_range.1 hi)).2 (weights_all hw.2.1 _ (List.mem_map.2 ⟨i, hi, rfl⟩))
end
def InI (n : Int) : Prop := -9223372036854775808 ≤ n ∧ n ≤ 9223372036854775807
theorem inI {n : Int} (h : (Lit.int .i64 n).wf = true) : InI n := by
  simp only [Lit.wf, Bool.and_eq_true, decide_eq_true_eq] at h
  have h1 : IntKind.i64.min = -9223372036854775808 := by decide
  have h2 : IntKind.i64.max = 9223372036854775807 := by decide
  rw [h1, h2] at h
  exact h
section
variable {Hh : Type} {enc : TypeId × Value → Hh} {W : World} {base : Nat} {spare : Nat → Bool} {held : Bool}
theorem deed_opened (n : Nat) (cs : List Value) (y : DataW Hh × List MemPlace) (h : DataW.trod enc Tryz.prog W base spare held n 60 cs = some y) : ∃ d : Deed, All2 (PR (HW W)) (ETy.deed.enc d) cs ∧ ((y.1.weights Tryz.prog 60).all (· ≤ reachBytes) = true → room d.expr.length 32) := by
  obtain ⟨xs, m, _, hy, hl, hlen, hf⟩ := DataW.trod_struct Tryz.underlying60 h
  have c0 : Tryz.prog.cellsOf 60 = 3 := by kernel_rfl
  have c1 : Tryz.prog.cellsOf 3 = 1 := by kernel_rfl
  have c2 : Tryz.prog.cellsOf 58 = 1 := by kernel_rfl
  have c9 : Tryz.prog.cellsOf 9 = 1 := by kernel_rfl
  have l3 : xs.length = 3 := hlen
  match xs, l3 with
  | [y0, y1, y2], _ =>
  obtain ⟨a, h0, w0⟩ := one_int Tryz.underlying3 (hf 0 _ rfl) rfl
  obtain ⟨s, h1⟩ := one_string Tryz.underlying9 (hf 1 _ rfl) rfl
  obtain ⟨l, v, h2, hp, hq⟩ := slice_deep .cell (Q := fun _ => True) Tryz.underlying58 (by kernel_rfl) (fun n cs y h => by
    obtain ⟨c, q, _⟩ := cell_opened n cs y h
    exact ⟨c, q, fun _ => trivial⟩) (hf 2 _ rfl)
  replace h0 : List.take (Tryz.prog.cellsOf 3) (List.drop 0 cs) = [.int .i64 a] := h0
  replace h1 : List.take (Tryz.prog.cellsOf 9) (List.drop 1 cs) = [.string (bs s)] := h1
  replace h2 : List.take (Tryz.prog.cellsOf 58) (List.drop 2 cs) = [v] := h2
  rw [c0] at hl
  rw [c1] at h0
  rw [c2] at h2
  rw [c9] at h1
  have hw : (y.1.weights Tryz.prog 60).all (· ≤ reachBytes) = true → room l.length 32 := by
    intro hw
    rw [hy] at hw
    have hw2 : (y0.1.weights Tryz.prog 3 ++ (y1.1.weights Tryz.prog 9 ++ (y2.1.weights Tryz.prog 58 ++ []))).all (· ≤ reachBytes) = true := by
      simpa [DataW.weights, Tryz.underlying60, DataW.weightsEach] using hw
    simp only [List.all_append, List.append_nil, Bool.and_eq_true] at hw2
    have h4 := (hq hw2.2.2).2
    have hb : Tryz.prog.bytesOf 88 = 32 := by kernel_rfl
    rw [hb] at h4
    unfold reachBytes at h4
    exact ⟨by omega, by unfold maxLen; omega⟩
  match cs, hl with
  | [u0, u1, u2], _ =>
    simp at h0 h1 h2
    subst h0; subst h1; subst h2
    exact ⟨⟨a, s, l⟩, .cons (.int _ a) (.cons (.str s) (.cons hp .nil)), hw⟩
theorem deeds_arg {v : Value} {d : DataW Hh} {ps : List MemPlace} {b0 : Nat} (h : DataW.Trod enc Tryz.prog W base spare held 22 v d ps) (hv : Value.okWide Tryz.prog W .any b0 22 v) :
    ∃ l : List Deed, SX.R (VW W) (.c (.pd (.lst .deed l))) v ∧ ((d.weights Tryz.prog 22).all (· ≤ reachBytes) = true → room l.length 48 ∧ ∀ a ∈ l, room a.expr.length 32) := by
  have hv' : Cell.okWide Tryz.prog W .any b0 22 v := by simpa only [Value.okWide, Tryz.underlying22] using hv
  obtain ⟨fuel, hf⟩ := h
  have hc : v.cells.toList = [v] := by
    have hv2 := hv'
    simp only [Cell.okWide, Tryz.underlying22, Cell.ok] at hv2
    cases v <;> first | rfl | exact hv2.elim
  rw [hc] at hf
  obtain ⟨l, v', h1, h2, h3⟩ := slice_deep .deed (Q := fun a => room a.expr.length 32) Tryz.underlying22 (by kernel_rfl) deed_opened hf
  simp only [List.cons.injEq, and_true] at h1
  subst h1
  have hb : Tryz.prog.bytesOf 60 = 48 := by kernel_rfl
  rw [hb] at h3
  refine ⟨l, h2, fun hw => ?_⟩
  have h4 := h3 hw
  unfold reachBytes at h4
  exact ⟨⟨by omega, by unfold maxLen; omega⟩, h4.1⟩
theorem val_opened (n : Nat) (cs : List Value) (y : DataW Hh × List MemPlace) (h : DataW.trod enc Tryz.prog W base spare held n 49 cs = some y) : ∃ v : Val, All2 (PR (HW W)) (ETy.val.enc v) cs ∧ i64 v.a = true := by
  obtain ⟨xs, m, _, rfl, hl, hlen, hf⟩ := DataW.trod_struct Tryz.underlying49 h
  have c0 : Tryz.prog.cellsOf 49 = 3 := by kernel_rfl
  have c1 : Tryz.prog.cellsOf 3 = 1 := by kernel_rfl
  have c2 : Tryz.prog.cellsOf 2 = 1 := by kernel_rfl
  have l3 : xs.length = 3 := hlen
  obtain ⟨a, h0, w0⟩ := one_int Tryz.underlying3 (hf 0 _ rfl) (by rw [List.getElem?_eq_getElem (by omega)]; rfl)
  obtain ⟨b, h1, w1⟩ := one_int Tryz.underlying2 (hf 1 _ rfl) (by rw [List.getElem?_eq_getElem (by omega)]; rfl)
  obtain ⟨c, h2, w2⟩ := one_int Tryz.underlying2 (hf 2 _ rfl) (by rw [List.getElem?_eq_getElem (by omega)]; rfl)
  replace h0 : List.take (Tryz.prog.cellsOf 3) (List.drop 0 cs) = [.int .i64 a] := h0
  replace h1 : List.take (Tryz.prog.cellsOf 2) (List.drop 1 cs) = [.int .i64 b] := h1
  replace h2 : List.take (Tryz.prog.cellsOf 2) (List.drop 2 cs) = [.int .i64 c] := h2
  rw [c0] at hl
  rw [c1] at h0
  rw [c2] at h1 h2
  match cs, hl with
  | [u0, u1, u2], _ =>
    simp at h0 h1 h2
    subst h0; subst h1; subst h2
    exact ⟨⟨a, b, c⟩, .cons (.int _ a) (.cons (.int _ b) (.cons (.int _ c) .nil)), i64_iff.2 (inI w1)⟩
theorem var_opened (n : Nat) (cs : List Value) (y : DataW Hh × List MemPlace) (h : DataW.trod enc Tryz.prog W base spare held n 51 cs = some y) : ∃ v : Var, All2 (PR (HW W)) (ETy.var.enc v) cs ∧ True := by
  obtain ⟨xs, m, _, rfl, hl, hlen, hf⟩ := DataW.trod_struct Tryz.underlying51 h
  have c0 : Tryz.prog.cellsOf 51 = 7 := by kernel_rfl
  have c1 : Tryz.prog.cellsOf 3 = 1 := by kernel_rfl
  have c2 : Tryz.prog.cellsOf 2 = 1 := by kernel_rfl
  have c9 : Tryz.prog.cellsOf 9 = 1 := by kernel_rfl
  have c3 : Tryz.prog.cellsOf 49 = 3 := by kernel_rfl
  have l5 : xs.length = 5 := hlen
  obtain ⟨s, h0⟩ := one_string Tryz.underlying9 (hf 0 _ rfl) (by rw [List.getElem?_eq_getElem (by omega)]; rfl)
  obtain ⟨a, h1, w1⟩ := one_int Tryz.underlying3 (hf 1 _ rfl) (by rw [List.getElem?_eq_getElem (by omega)]; rfl)
  obtain ⟨b, h2, w2⟩ := one_int Tryz.underlying2 (hf 2 _ rfl) (by rw [List.getElem?_eq_getElem (by omega)]; rfl)
  obtain ⟨c, h3, w3⟩ := one_int Tryz.underlying2 (hf 3 _ rfl) (by rw [List.getElem?_eq_getElem (by omega)]; rfl)
  have h4' := hf 4 _ rfl
  rw [List.getElem?_eq_getElem (by omega)] at h4'
  obtain ⟨v, h4, _⟩ := val_opened _ _ _ h4'
  replace h0 : List.take (Tryz.prog.cellsOf 9) (List.drop 0 cs) = [.string (bs s)] := h0
  replace h1 : List.take (Tryz.prog.cellsOf 3) (List.drop 1 cs) = [.int .i64 a] := h1
  replace h2 : List.take (Tryz.prog.cellsOf 2) (List.drop 2 cs) = [.int .i64 b] := h2
  replace h3 : List.take (Tryz.prog.cellsOf 2) (List.drop 3 cs) = [.int .i64 c] := h3
  replace h4 : All2 (PR (HW W)) (ETy.val.enc v) (List.take (Tryz.prog.cellsOf 49) (List.drop 4 cs)) := h4
  rw [c0] at hl
  rw [c9] at h0
  rw [c1] at h1
  rw [c2] at h2 h3
  rw [c3] at h4
  match cs, hl with
  | [u0, u1, u2, u3, u4, u5, u6], _ =>
    simp at h0 h1 h2 h3 h4
    subst h0; subst h1; subst h2; subst h3
    exact ⟨⟨s, a, b, c, v⟩, .cons (.str s) (.cons (.int _ a) (.cons (.int _ b) (.cons (.int _ c) h4))), trivial⟩
theorem two_of {cs : Array Value} (h : cs.size = 2) : ∃ a b, cs = #[a, b] := by
  obtain ⟨l⟩ := cs
  match l, h with
  | [a, b], _ => exact ⟨a, b, rfl⟩
theorem scope_arg {v : Value} {d : DataW Hh} {ps : List MemPlace} {b0 : Nat} (h : DataW.Trod enc Tryz.prog W base spare held 34 v d ps) (hv : Value.okWide Tryz.prog W .any b0 34 v) :
    ∃ (vars : List Var) (vals : List Val), SX.R (VW W) (.agg [.pd (.lst .var vars), .pd (.lst .val vals)]) v ∧
      ((d.weights Tryz.prog 34).all (· ≤ reachBytes) = true → room vars.length 64 ∧ room vals.length 24 ∧ ∀ x ∈ vals, i64 x.a = true) := by
  simp only [Value.okWide, Tryz.underlying34] at hv
  obtain ⟨cs, rfl, hsz, ts, hts, _, hcs⟩ := hv
  have c26 : Tryz.prog.cellsOf 34 = 2 := by kernel_rfl
  rw [c26] at hsz
  obtain ⟨v1, v2, rfl⟩ := two_of hsz
  obtain ⟨fuel, hf⟩ := h
  obtain ⟨xs, m, _, hx, hl, hlen, hf⟩ := DataW.trod_struct Tryz.underlying34 hf
  have l2 : xs.length = 2 := hlen
  have h0 := hf 0 _ rfl
  have h1 := hf 1 _ rfl
  match xs, l2 with
  | [y0, y1], _ =>
  have c23 : Tryz.prog.cellsOf 31 = 1 := by kernel_rfl
  have c24 : Tryz.prog.cellsOf 32 = 1 := by kernel_rfl
  replace h0 : DataW.trod enc Tryz.prog W base spare held m 31 (([v1, v2].drop 0).take (Tryz.prog.cellsOf 31)) = some y0 := h0
  replace h1 : DataW.trod enc Tryz.prog W base spare held m 32 (([v1, v2].drop 1).take (Tryz.prog.cellsOf 32)) = some y1 := h1
  rw [c23] at h0
  rw [c24] at h1
  obtain ⟨vars, u1, e1, q1, q3⟩ := slice_deep .var (Q := fun _ => True) Tryz.underlying31 (by kernel_rfl) (fun n cs y h => by
    obtain ⟨c, q, _⟩ := var_opened n cs y h
    exact ⟨c, q, fun _ => trivial⟩) h0
  obtain ⟨vals, u2, e2, r1, r3⟩ := slice_deep .val (Q := fun v => i64 v.a = true) Tryz.underlying32 (by kernel_rfl) (fun n cs y h => by
    obtain ⟨c, q, hi⟩ := val_opened n cs y h
    exact ⟨c, q, fun _ => hi⟩) h1
  simp at e1 e2
  subst e1; subst e2
  refine ⟨vars, vals, ⟨[v1, v2], rfl, .cons q1 (.cons r1 .nil)⟩, fun hw => ?_⟩
  simp only [Prod.mk.injEq] at hx
  rw [hx.1] at hw
  have hw2 : (y0.1.weights Tryz.prog 31 ++ (y1.1.weights Tryz.prog 32 ++ [])).all (· ≤ reachBytes) = true := by
    simpa [DataW.weights, Tryz.underlying34, DataW.weightsEach] using hw
  rw [List.all_append, List.append_nil, Bool.and_eq_true] at hw2
  have h4 := (q3 hw2.1).2
  have h5 := r3 hw2.2
  have e : Tryz.prog.bytesOf 51 = 64 := by kernel_rfl
  have e' : Tryz.prog.bytesOf 49 = 24 := by kernel_rfl
  rw [e] at h4
  rw [e'] at h5
  unfold reachBytes at h4 h5
  exact ⟨⟨by omega, by unfold maxLen; omega⟩, ⟨by omega, by unfold maxLen; omega⟩, h5.1⟩
end
end Go.Proofs.YtjndellhebidoaaGreatDoor
namespace Go.Ev
open Go.RowKit

def flatT : ETy → Bool
  | .int | .bool | .str | .byte | .cell | .val | .var | .krow | .piece | .wait => true
  | _ => false
theorem flatT_enc {t : ETy} (h : flatT t = true) (x : t.den) : ∀ p ∈ t.enc x, flatP p = true := by
  cases t <;> first
    | (exact absurd h (by decide))
    | (intro p hp; simp only [ETy.enc, List.mem_cons, List.not_mem_nil, or_false] at hp; rcases hp with rfl | rfl | rfl | rfl | rfl | rfl | rfl <;> rfl)
    | (intro p hp; simp only [ETy.enc, List.mem_cons, List.not_mem_nil, or_false] at hp; rcases hp with rfl | rfl | rfl | rfl | rfl <;> rfl)
    | (intro p hp; simp only [ETy.enc, List.mem_cons, List.not_mem_nil, or_false] at hp; rcases hp with rfl | rfl | rfl <;> rfl)
    | (intro p hp; simp only [ETy.enc, List.mem_cons, List.not_mem_nil, or_false] at hp; rcases hp with rfl | rfl <;> rfl)
    | (intro p hp; simp only [ETy.enc, List.mem_cons, List.not_mem_nil, or_false] at hp; subst hp; rfl)
def flatC : Chunk → Bool
  | .own _ t _ => flatT t
  | _ => false
def ownX : SX → Bool
  | .c (.own _) => true
  | x => flatX x
def ownV : SV → Bool
  | .x s => ownX s
  | .tup l => l.all ownX
  | _ => false
def shiftVn (V V2 : Vn) : Vn := ⟨V.H, fun i => match i with | 0 => V.σ 0 | i + 1 => V2.σ i, fun i => match i with | 0 => V.ov 0 | i + 1 => V2.ov i⟩
theorem ownX_shift {V V2 : Vn} {s : SX} (h : ownX s = true) {u : Value} (hr : s.R V2 u) : (s.map fun i => i + 1).R (shiftVn V V2) u := by
  have fl : ∀ {x : SC}, flatS x = true → ∀ {u}, x.R V2 u → (x.map fun i => i + 1).R (shiftVn V V2) u := by
    intro x hx u hu
    cases x with
    | pd p => exact flatP_any hx hu
    | _ => cases hx
  cases s with
  | c x =>
    cases x with
    | own i => exact hr
    | pd p => exact fl (x := .pd p) h hr
    | _ => cases h
  | agg cs =>
    have h' : cs.all flatS = true := h
    obtain ⟨us, rfl, h2⟩ := hr
    refine ⟨us, rfl, ?_⟩
    show All2 _ (cs.map _) us
    rw [All2.map_left]
    exact h2.mono fun x u hm hx => fl (List.all_eq_true.1 h' x hm) hx
theorem ownV_shift {V V2 : Vn} {s : SV} (h : ownV s = true) {u : Value} (hr : s.R V2 u) : (s.map fun i => i + 1).R (shiftVn V V2) u := by
  cases s with
  | x s => exact ownX_shift h hr
  | tup l =>
    have h' : l.all ownX = true := h
    obtain ⟨us, rfl, h2⟩ := hr
    refine ⟨us, rfl, ?_⟩
    show All2 _ (l.map _) us
    rw [All2.map_left]
    exact h2.mono fun x u hm hx => ownX_shift (List.all_eq_true.1 h' x hm) hx
  | grd _ _ _ => exact hr.elim
def isNilN : List Nat → Bool
  | [] => true
  | _ => false
theorem flat_args {V V' : Vn} (hs : HLe V.H V'.H) {l : List SX} {us : List Value} (hl : l.all (fun x => isNilN x.refs) = true) (h : All2 (SX.R V) l us) : All2 (SX.R V') l us := by
  refine h.mono fun x u hm hx => ?_
  have hn : x.refs = [] := by
    have := List.all_eq_true.1 hl x hm
    cases hr : x.refs with
    | nil => rfl
    | cons a b => rw [hr] at this; cases this
  have ht : Turned (fun i => i) V V' x.refs := ⟨hs, fun i hi => by rw [hn] at hi; cases hi⟩
  have := SX.R_map ht hx
  rwa [SX.map_eq fun _ _ => rfl] at this
section
variable {P : Program} {f : FuncId}
theorem Does.borrow {pre post : List SX} {e : TypeId} {t : ETy} {l : List t.den} {ret : SV} {ck' : List Chunk} (h : Does P f (pre ++ [.c (.pd (.lst t l))] ++ post) [] ret ck')
    (hpre : pre.all (fun x => isNilN x.refs) = true) (hpost : post.all (fun x => isNilN x.refs) = true) (hck : ck'.all flatC = true) (hret : ownV ret = true) :
    Does P f (pre ++ [.c (.own 0)] ++ post) [.own e t l] (ret.map fun i => i + 1) (.own e t l :: ck') := by
  intro w V vs hw hT hv
  obtain ⟨H', hle, hw1, hpr⟩ := hw.freezeOwn (i := 0) (e := e) (t := t) (l := l) rfl
  have hw2 : WOk (entry [] ⟨H', V.σ, V.ov⟩ w) [] ⟨H', V.σ, V.ov⟩ w :=
    { ext := Fr.refl _ _, imm := hw1.imm, hle := HLe.refl _, frz := fun k hk => .inl hk, agr := fun i _ => ⟨rfl, rfl⟩, own := fun i c hc => (by simp at hc), base := fun i c b hc => (by simp at hc), inj := fun i j c d b hc => (by simp at hc) }
  have hargs : All2 (SX.R ⟨H', V.σ, V.ov⟩) (pre ++ [.c (.pd (.lst t l))] ++ post) vs := by
    have key : ∀ (pre : List SX) (vs : List Value), pre.all (fun x => isNilN x.refs) = true → All2 (SX.R V) (pre ++ (.c (.own 0) :: post)) vs → All2 (SX.R ⟨H', V.σ, V.ov⟩) (pre ++ (.c (.pd (.lst t l)) :: post)) vs := by
      intro pre
      induction pre with
      | nil =>
        intro vs _ hv
        cases hv with
        | cons h1 h2 =>
          have h1' : _ = V.ov 0 := h1
          exact .cons (by rw [h1']; exact hpr) (flat_args (V' := ⟨H', V.σ, V.ov⟩) hle hpost h2)
      | cons x pre ih =>
        intro vs hp hv
        rw [List.all_cons, Bool.and_eq_true] at hp
        cases hv with
        | cons h1 h2 =>
          have h3 := flat_args (V' := ⟨H', V.σ, V.ov⟩) (l := [x]) hle (by simpa using hp.1) (.cons h1 .nil)
          cases h3 with
          | cons h3 _ => exact .cons h3 (ih _ hp.2 h2)
    have := key pre vs hpre (by simpa using hv)
    simpa using this
  refine (h w _ vs hw2 (hT.mono hle) hargs).mono fun en w2 hq => ?_
  obtain ⟨v, V2, rfl, hr, r2⟩ := hq
  have hM : ∀ b, ¬ (entry [] ⟨H', V.σ, V.ov⟩ w).M b := fun b ⟨i, c, hc, _⟩ => by simp at hc
  have hblk : ∀ k, k < w.heap.size → w2.heap[k]? = w.heap[k]? := fun k hk => r2.ext.block k hk (hM k)
  have hH : ∀ k o, V.H k = some o → V2.H k = some o := fun k o hk => r2.hle k o (hle k o hk)
  refine ⟨v, shiftVn V V2, rfl, ownV_shift hret hr, { ext := ?_, imm := ?_, hle := HLe.refl _, frz := fun k hk => .inl hk, agr := ?_, own := ?_, base := ?_, inj := ?_ }⟩
  · exact ⟨r2.ext.os, r2.ext.tape, r2.ext.output, r2.ext.size, fun k hk _ => hblk k hk⟩
  · exact fun k o hk => r2.imm k o (hH k o hk)
  · intro i hi
    have : i = 0 := by have hi' : i < 1 := hi
                       omega
    subst this; exact ⟨rfl, rfl⟩
  · intro i c hc
    cases i with
    | zero =>
      simp only [List.getElem?_cons_zero, Option.some.injEq] at hc
      subst hc
      have h0 := hw.own 0 _ rfl
      exact Chunk.holds_kept (V := shiftVn V V2) (w := w) h0 fun b hb => hblk b (Chunk.blk_lt h0 hb)
    | succ i =>
      rw [List.getElem?_cons_succ] at hc
      have hf := List.all_eq_true.1 hck c (List.mem_of_getElem? hc)
      have h1 := r2.own i c hc
      cases c with
      | own e' t' l' =>
        obtain ⟨xs, h2, h3, h4⟩ := h1
        refine ⟨xs, h2, h3.mono fun p u hp hu => ?_, h4⟩
        obtain ⟨x, _, hx⟩ := List.mem_flatMap.1 hp
        exact flatP_any (flatT_enc hf x p hx) hu
      | _ => cases hf
  · intro i c b hc hb
    cases i with
    | zero =>
      simp only [List.getElem?_cons_zero, Option.some.injEq] at hc
      subst hc
      exact hw.base 0 _ b rfl hb
    | succ i =>
      rw [List.getElem?_cons_succ] at hc
      have hf := List.all_eq_true.1 hck c (List.mem_of_getElem? hc)
      have hb' : c.blk V2 i = some b := by
        cases c with
        | own e' t' l' => exact hb
        | _ => cases hf
      obtain ⟨h1, h2⟩ := r2.base i c b hc hb'
      refine ⟨.inl (h1.resolve_right (hM b)), ?_⟩
      cases hV : (shiftVn V V2).H b with
      | none => rfl
      | some o => rw [hH b o hV] at h2; cases h2
  · have hlow : ∀ {c : Chunk} {b : Nat}, [Chunk.own e t l][0]? = some c → c.blk (shiftVn V V2) 0 = some b → b < w.heap.size := by
      intro c b hc hb
      simp only [List.getElem?_cons_zero, Option.some.injEq] at hc
      subst hc
      exact Chunk.blk_lt (hw.own 0 _ rfl) hb
    have hhigh : ∀ {i : Nat} {c : Chunk} {b : Nat}, ck'[i]? = some c → c.blk (shiftVn V V2) (i + 1) = some b → c.blk V2 i = some b ∧ w.heap.size ≤ b := by
      intro i c b hc hb
      have hf := List.all_eq_true.1 hck c (List.mem_of_getElem? hc)
      have hb' : c.blk V2 i = some b := by
        cases c with
        | own e' t' l' => exact hb
        | _ => cases hf
      exact ⟨hb', (r2.base i c b hc hb').1.resolve_right (hM b)⟩
    intro i j c d b hc hd hb hb2
    cases i with
    | zero =>
      cases j with
      | zero => rfl
      | succ j =>
        rw [List.getElem?_cons_succ] at hd
        have h1 := hlow (by simpa using hc) hb
        have h2 := (hhigh hd hb2).2
        omega
    | succ i =>
      rw [List.getElem?_cons_succ] at hc
      cases j with
      | zero =>
        have h1 := hlow (by simpa using hd) hb2
        have h2 := (hhigh hc hb).2
        omega
      | succ j =>
        rw [List.getElem?_cons_succ] at hd
        rw [r2.inj i j c d b hc hd (hhigh hc hb).1 (hhigh hd hb2).1]
end
end Go.Ev
namespace Go.Proofs.YtjndellhebidoaaGreatDoor
open Go Go.Ev
set_option maxRecDepth 100000
theorem do_borrow (l : List Deed) (vs : List Var) (vals : List Val) (hl : l.length ≤ 1000000) (hr : room vals.length 24) (hv : ∀ v ∈ vals, i64 v.a = true) :
    Does Tryz.prog 14 [.l .deed l, .l .var vs, .c (.own 0)] [.own 49 .val vals] (.tup [.c (.own 1), .c (.own 2), .c (.own 3), .b (doM l vs vals).2.2.2]) [.own 49 .val vals, .own 49 .val (doM l vs vals).1, .own 9 .str (doM l vs vals).2.1, .own 9 .str (doM l vs vals).2.2.1] :=
  Does.borrow (pre := [.l .deed l, .l .var vs]) (post := []) (do_spec l vs vals hl hr hv) rfl rfl rfl rfl
def eDoB : Nat × (List SX → List Chunk → Option (Option Prop × SV × List Chunk)) := (14, fun
  | [.c (.pd (.lst .deed l)), .c (.pd (.lst .var vs)), .c (.own 0)], [.own 49 .val vals] => some (some (l.length ≤ 1000000 ∧ room vals.length 24 ∧ ∀ v ∈ vals, i64 v.a = true), .tup [.c (.own 1), .c (.own 2), .c (.own 3), .c (.pd (.bool (doM l vs vals).2.2.2))], [.own 49 .val vals, .own 49 .val (doM l vs vals).1, .own 9 .str (doM l vs vals).2.1, .own 9 .str (doM l vs vals).2.2.1])
  | _, _ => none)
theorem eDoB_ok (vs : List SX) (ck : List Chunk) (p : Option Prop) (ret : SV) (ck' : List Chunk) (h : eDoB.2 vs ck = some (p, ret, ck')) (hp : Holds p) : Does Tryz.prog eDoB.1 vs ck ret ck' := by
  unfold eDoB at h
  simp only at h
  split at h
  · rename_i l vs vals
    simp only [Option.some.injEq, Prod.mk.injEq] at h
    obtain ⟨rfl, rfl, rfl⟩ := h
    exact do_borrow l vs vals hp.1 hp.2.1 hp.2.2
  · simp at h
def cfgF : Cfg := ⟨tys0, [eWk6, eLong, eCpd, eDoB, eDo, eRfits, eSv]⟩
theorem cfgF_ok : TabOk Tryz.prog cfgF.tab := (TabOk.cons eWk6_ok (TabOk.cons eLong_ok (TabOk.cons eCpd_ok (TabOk.cons eDoB_ok (TabOk.cons eDo_ok (TabOk.cons eRfits_ok (TabOk.cons eSv_ok TabOk.nil)))))))

theorem get_set {cur : List Val} {i : Nat} (hi : i < cur.length) (j : Nat) (x : Val) : ETy.get .val (cur.set i x) j = if i = j then x else ETy.get .val cur j := by
  simp only [ETy.get, List.getD_eq_getElem?_getD, List.getElem?_set]
  split
  · rename_i h; subst h; simp [hi]
  · rfl
theorem doGo_fits (vs : List Var) : ∀ (l : List Deed) (cur : List Val) (rs ss : List Str), (∀ v ∈ cur, i64 v.a = true) → (doGo vs l cur rs ss).1.length = cur.length ∧ ∀ j, fitsM (ETy.get .var vs j) (ETy.get .val cur j) = true → fitsM (ETy.get .var vs j) (ETy.get .val (doGo vs l cur rs ss).1 j) = true
  | [], cur, rs, ss, _ => ⟨rfl, fun _ h => h⟩
  | d :: r, cur, rs, ss, hv => by
    rw [doGo]
    cases d.kind == 2
    · cases d.kind == 3
      · cases d.kind == 1
        · exact ⟨rfl, fun _ h => h⟩
        · cases hs : setOk vs cur d
          · exact ⟨rfl, fun _ h => h⟩
          · obtain ⟨g1, g2, g3, g4⟩ := setOk_parts hv hs
            simp only [cond_false, cond_true]
            obtain ⟨i1, i2⟩ := doGo_fits vs r (cur.set (ixV vs d.name).toNat (evalM d.expr vs cur []).1) rs ss (set_i64 hv g4)
            refine ⟨by rw [i1, List.length_set], fun j hj => i2 j ?_⟩
            rw [get_set (by omega)]
            split
            · rename_i h; subst h
              simp only [setOk, Bool.and_eq_true] at hs
              exact hs.2
            · exact hj
      · exact doGo_fits vs r cur rs (ss ++ [d.name]) hv
    · exact doGo_fits vs r cur (rs ++ [d.name]) ss hv
theorem fits_loop (l : List Deed) (vs : List Var) (vals : List Val) (Γ : Ctx) (hr : room l.length 48) (hx : ∀ a ∈ l, room a.expr.length 32) (hl : l.length ≤ 1000000) (hvl : room vals.length 24) (hv : ∀ v ∈ vals, i64 v.a = true) (hlen : vs.length = vals.length) (r : List Val) (hq : r = (doM l vs vals).1) :
    ∀ (n k : Nat) (m : List Val), vals.length - k ≤ n → k ≤ vals.length → m.length = vals.length →
    J Tryz.prog 6 (bodyOf Tryz.f6) Γ (Eq2 (.x (.b true)) []) [.code [1, 1, 1, 1, 1, 1, 0, 1, 0, 0], .inLoop [1, 1, 1, 1, 1, 1, 0, 1, 0, 0], .inBlock 0, .code [1, 1, 1, 1, 1, 1, 1]] ({ n := 104, fr := [(6, .p (.lst .val (r))), (0, .p (.lst .deed l)), (3, .x (.c (.loc 0 0))), (4, .p (.bool false)), (5, .x (.c (.own 1))), (56, .i ((r.length : Int))), (57, .i (k))], ck := [.cells [.pd (.lst .var vs), .pd (.lst .val vals)] 34, .own 49 .val m] }) := by
  obtain ⟨d1, d2⟩ := doGo_fits vs l vals [] [] hv
  have hrl : r.length = vals.length := by rw [hq]; exact d1
  intro n
  induction n with
  | zero => ?_
  | succ n ih => ?_
  all_goals
    intro k m hn hk hm
    refine J.go (cfg := cfgF) cfgF_ok Tryz.func6 1000 (t := (.ite (decide ((↑k : Int) < (↑(List.length r) : Int))) (.need ((0 : Int) ≤ (↑k : Int) ∧ (↑k : Int) < (↑(List.length vs) : Int)) (.need ((0 : Int) ≤ (↑k : Int) ∧ (↑k : Int) < (↑(List.length vals) : Int)) (.need (Prod.snd (Prod.snd (Prod.snd (11, 71, true, onBy true (fitsM { name := Var.name (ETy.get .var vs k), kind := Var.kind (ETy.get .var vs k), lo := Var.lo (ETy.get .var vs k), hi := Var.hi (ETy.get .var vs k), init := { kind := Val.kind (Var.init (ETy.get .var vs k)), a := Val.a (Var.init (ETy.get .var vs k)), b := Val.b (Var.init (ETy.get .var vs k)) } } { kind := Val.kind (ETy.get .val vals k), a := Val.a (ETy.get .val vals k), b := Val.b (ETy.get .val vals k) }) none))) → (0 : Int) ≤ (↑k : Int) ∧ (↑k : Int) < (↑(List.length vs) : Int)) (.need (Prod.snd (Prod.snd (Prod.snd (11, 71, true, onBy true (fitsM { name := Var.name (ETy.get .var vs k), kind := Var.kind (ETy.get .var vs k), lo := Var.lo (ETy.get .var vs k), hi := Var.hi (ETy.get .var vs k), init := { kind := Val.kind (Var.init (ETy.get .var vs k)), a := Val.a (Var.init (ETy.get .var vs k)), b := Val.b (Var.init (ETy.get .var vs k)) } } { kind := Val.kind (ETy.get .val vals k), a := Val.a (ETy.get .val vals k), b := Val.b (ETy.get .val vals k) }) none))) → (0 : Int) ≤ (↑k : Int) ∧ (↑k : Int) < (↑(List.length r) : Int)) (.ite (fitsM { name := Var.name (ETy.get .var vs k), kind := Var.kind (ETy.get .var vs k), lo := Var.lo (ETy.get .var vs k), hi := Var.hi (ETy.get .var vs k), init := { kind := Val.kind (Var.init (ETy.get .var vs k)), a := Val.a (Var.init (ETy.get .var vs k)), b := Val.b (Var.init (ETy.get .var vs k)) } } { kind := Val.kind (ETy.get .val vals k), a := Val.a (ETy.get .val vals k), b := Val.b (ETy.get .val vals k) } && !fitsM { name := Var.name (ETy.get .var vs k), kind := Var.kind (ETy.get .var vs k), lo := Var.lo (ETy.get .var vs k), hi := Var.hi (ETy.get .var vs k), init := { kind := Val.kind (Var.init (ETy.get .var vs k)), a := Val.a (Var.init (ETy.get .var vs k)), b := Val.b (Var.init (ETy.get .var vs k)) } } { kind := Val.kind (ETy.get .val r k), a := Val.a (ETy.get .val r k), b := Val.b (ETy.get .val r k) }) (.ret (.p (.bool false)) []) (.need ((0 : Int) ≤ (↑k : Int) ∧ (↑k : Int) < (↑(List.length m) : Int)) (.need (k < List.length m) (.stop [.code [1, 1, 1, 1, 1, 1, 0, 1, 0, 0], .inLoop [1, 1, 1, 1, 1, 1, 0, 1, 0, 0], .inBlock 0, .code [1, 1, 1, 1, 1, 1, 1]] { n := 104, fr := [(6, .p (.lst .val r)), (0, .p (.lst .deed l)), (3, .x (.c (.loc 0 0))), (4, .p (.bool false)), (5, .x (.c (.own 1))), (56, .i (↑(List.length r) : Int)), (57, .i (IntKind.wrap .i64 ((↑k : Int) + (1 : Int))))], ck := [.cells [.pd (.lst .var vs), .pd (.lst .val vals)] 34, .own 49 .val (List.set m k { kind := (77 : Int), a := (0 : Int), b := (0 : Int) })] })))))))) (.need (room (List.length l) 48 ∧ ∀ (a : ETy.den .deed), a ∈ l → room (List.length (Deed.expr a)) 32) (.need (List.length l ≤ 1000000 ∧ room (List.length vals) 24 ∧ ∀ (v : ETy.den .val), v ∈ vals → i64 (Val.a v) = true) (.ret (.p (.bool (sameVals r (Prod.fst (doM l vs vals))))) []))))) (by kernel_rfl) ?_
    refine ⟨fun hlt => ?_, fun hge => ?_⟩
    · have hk' : k < vals.length := by have := of_decide_eq_true hlt; omega
      refine ⟨by omega, by omega, fun _ => by omega, fun _ => by omega, fun hb => ?_, fun _ => ⟨by omega, by omega, ?_⟩⟩
      · exfalso
        have hb1 : (fitsM (ETy.get .var vs k) (ETy.get .val vals k) && !fitsM (ETy.get .var vs k) (ETy.get .val r k)) = true := hb
        rw [Bool.and_eq_true] at hb1
        have h2 : fitsM (ETy.get .var vs k) (ETy.get .val r k) = true := by rw [hq]; exact d2 k hb1.1
        rw [h2] at hb1; exact Bool.noConfusion hb1.2
      · rw [wrapK (by unfold room maxLen at hvl; omega)]
        first
        | (exfalso; omega)
        | exact ih (k + 1) (List.set m k (⟨77, 0, 0⟩ : Val)) (by omega) (by omega) (by simp [hm])
    · refine ⟨⟨hr, hx⟩, ⟨hl, hvl, hv⟩, ?_⟩
      rw [hq, sameVals_self]; exact ⟨rfl, rfl⟩
theorem acts_fits_spec (l : List Deed) (vs : List Var) (vals : List Val) (hr : room l.length 48) (hx : ∀ a ∈ l, room a.expr.length 32) (hvl : room vals.length 24) (hv : ∀ v ∈ vals, i64 v.a = true) :
    Does Tryz.prog 6 [.l .deed l, .agg [.pd (.lst .var vs), .pd (.lst .val vals)]] [] (.x (.b true)) [] := by
  refine Does.go (cfg := cfgF) cfgF_ok Tryz.func6 (by kernel_rfl) (by kernel_rfl) (t := (.ite false (.ret (.p (.bool false)) []) (.ite (decide ((↑(List.length l) : Int) > (100 : Int)) || (↑(List.length vs) : Int) != (↑(List.length vals) : Int)) (.ret (.p (.bool true)) []) (.need (room (List.length ([] ++ vals)) 24) (.need (room (List.length l) 48 ∧ ∀ (a : ETy.den .deed), a ∈ l → room (List.length (Deed.expr a)) 32) (.need (List.length l ≤ 1000000 ∧ room (List.length ([] ++ vals)) 24 ∧ ∀ (v : ETy.den .val), v ∈ [] ++ vals → i64 (Val.a v) = true) (.ite (!sameVals ([] ++ vals) vals || (↑(List.length (Prod.fst (doM l vs ([] ++ vals)))) : Int) != (↑(List.length ([] ++ vals)) : Int)) (.ret (.p (.bool false)) []) (.stop [.code [1, 1, 1, 1, 1, 1, 0, 1, 0, 0], .inLoop [1, 1, 1, 1, 1, 1, 0, 1, 0, 0], .inBlock 0, .code [1, 1, 1, 1, 1, 1, 1]] { n := 104, fr := [(6, .p (.lst .val (Prod.fst (doM l vs ([] ++ vals))))), (0, .p (.lst .deed l)), (3, .x (.c (.loc 0 0))), (4, .p (.bool false)), (5, .x (.c (.own 1))), (56, .i (↑(List.length (Prod.fst (doM l vs ([] ++ vals)))) : Int)), (57, .i (0 : Int))], ck := [.cells [.pd (.lst .var vs), .pd (.lst .val vals)] 34, .own 49 .val ([] ++ vals)] })))))))) (by kernel_rfl) fun Γ => ?_
  refine ⟨fun x => Bool.noConfusion x, fun _ => ⟨fun _ => ⟨rfl, rfl⟩, fun h => ?_⟩⟩
  simp only [Bool.or_eq_false_iff, decide_eq_false_iff_not, bne_eq_false_iff_eq] at h
  have hl : l.length ≤ 1000000 := by omega
  have hlen : vs.length = vals.length := by omega
  obtain ⟨d1, _⟩ := doGo_fits vs l vals [] [] hv
  have d1' : (doM l vs vals).1.length = vals.length := d1
  refine ⟨hvl, ⟨hr, hx⟩, ⟨hl, hvl, hv⟩, fun hb => ?_, fun _ => ?_⟩
  · exfalso
    have hb1 : (!sameVals vals vals || ((doM l vs vals).1.length : Int) != (vals.length : Int)) = true := hb
    rw [sameVals_self, d1'] at hb1
    simp at hb1
  · exact fits_loop l vs vals Γ hr hx hl hvl hv hlen _ rfl vals.length 0 vals (by omega) (by omega) rfl
end Go.Proofs.YtjndellhebidoaaGreatDoor

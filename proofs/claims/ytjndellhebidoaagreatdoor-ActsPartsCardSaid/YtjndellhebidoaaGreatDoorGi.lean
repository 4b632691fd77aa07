/- The laws' arguments: lists within lists, opened. Conditions: none. The law ActsParts. Conditions: sizes; numbers are such. Numbers among the law's arguments. Conditions: none. -/
import Derived.Test.YtjndellhebidoaaGreatDoorMh
import Derived.Test.YtjndellhebidoaaGreatDoorJb
import Derived.Test.YtjndellhebidoaaGreatDoorVa
namespace Go.Proofs.YtjndellhebidoaaGreatDoor
open Go Go.Ev Go.RowKit Go.ChangeShapes Go.WideShapes Go.ChangeAt
set_option maxRecDepth 100000
theorem spot_of {W : World} {a : Addr} {u : Value} (h : W.cell? a = some u) : a.spot = none := by
  unfold World.cell? at h
  split at h
  · split at h
    · cases h
    · rename_i hn; simpa using hn
  · cases h
theorem weights_all {H : Type} {P : Program} {e : TypeId} {p : Nat → Bool} : ∀ {l : List (DataW H)}, (DataW.weightsAll P e l).all p = true → ∀ d ∈ l, (d.weights P e).all p = true
  | [], _, d, hd => by cases hd
  | x :: r, h, d, hd => by
    simp only [DataW.weightsAll, List.all_append, Bool.and_eq_true] at h
    rcases List.mem_cons.1 hd with rfl | hd
    · exact h.1
    · exact weights_all h.2 d hd
section
variable {Hh : Type} {enc : TypeId × Value → Hh} {P : Program} {W : World} {base : Nat} {spare : Nat → Bool} {held : Bool}
theorem slice_deep (u : ETy) {Q : u.den → Prop} {t e : TypeId} {fuel : Nat} {cs : List Value} {x : DataW Hh × List MemPlace} (ht : P.underlying t = some (.slice e)) (hsz : P.cellsOf e = u.size)
    (hel : ∀ n cs y, DataW.trod enc P W base spare held n e cs = some y → ∃ r, All2 (PR (HW W)) (u.enc r) cs ∧ ((y.1.weights P e).all (· ≤ reachBytes) = true → Q r)) (h : DataW.trod enc P W base spare held fuel t cs = some x) :
    ∃ (l : List u.den) (v : Value), cs = [v] ∧ PR (HW W) (.lst u l) v ∧ ((x.1.weights P t).all (· ≤ reachBytes) = true → (∀ r ∈ l, Q r) ∧ l.length * P.bytesOf e ≤ reachBytes) := by
  rcases Go.Deep.open_slice ht h with ⟨rfl, rfl⟩ | ⟨a, len, cap, m, n, D, Pl, rfl, _, hl, hm, hmm, rfl, hx⟩
  · exact ⟨[], _, rfl, .emp u none 0 (fun _ => rfl), fun _ => ⟨by simp, by simp⟩⟩
  · have hlen : len ≤ m := by rw [hmm]; split <;> omega
    letI : Inhabited u.den := ⟨u.dflt⟩
    obtain ⟨f, hf⟩ := Go.Deep.choose_lt (α := u.den) (n := len) (p := fun i r => (∃ cs, W.cells? base (a.add (i * u.size)) u.size = some cs ∧ All2 (PR (HW W)) (u.enc r) cs) ∧ (((D i).weights P e).all (· ≤ reachBytes) = true → Q r)) (fun i hi => by
      obtain ⟨cs, h1, h2⟩ := hx i (by omega)
      obtain ⟨r, hr, hq⟩ := hel _ _ _ h2
      rw [hsz] at h1
      exact ⟨r, ⟨cs, h1, hr⟩, hq⟩)
    have hfl : ((List.range len).map f).length = len := by simp
    refine ⟨(List.range len).map f, _, rfl, ?_, ?_⟩
    · rcases Nat.eq_zero_or_pos len with h0 | h0
      · subst h0
        exact .emp u (some a) cap (fun h => by cases h)
      · have hs : a.spot = none := by
          obtain ⟨cs, h1, h2⟩ := (hf 0 h0).1
          obtain ⟨_, hl, hc⟩ := World.cells?_some h1
          have h3 := hc 0 u.size_pos
          rw [Nat.zero_mul] at h3
          have h4 : (0 : Nat) < cs.length := by rw [hl]; exact u.size_pos
          rw [List.getElem?_eq_getElem h4] at h3
          exact spot_of (a := a) (by simpa [Addr.add] using h3)
        have hcell : ∀ i, i < len → ∀ j, j < u.size → ∃ w cells e fr, W.heap[a.block]? = some (.cells cells e fr) ∧ cells[a.off + i * u.size + j]? = some w ∧ ∀ p, (u.enc (f i))[j]? = some p → PR (HW W) p w := by
          intro i hi j hj
          obtain ⟨cs, h1, h2⟩ := (hf i hi).1
          obtain ⟨_, hl, hc⟩ := World.cells?_some h1
          have h3 := hc j hj
          obtain ⟨w, hw⟩ : ∃ w, cs[j]? = some w := ⟨cs[j]'(by omega), List.getElem?_eq_getElem (by omega)⟩
          rw [hw] at h3
          have ha : (a.add (i * u.size)).add j = a.add (i * u.size + j) := by rw [Go.Deep.add_add]
          rw [ha] at h3
          obtain ⟨cells, e', fr, hb, h4⟩ := cell_at hs rfl rfl h3
          refine ⟨w, cells, e', fr, hb, by rw [Nat.add_assoc]; exact h4, fun p hp => ?_⟩
          obtain ⟨w', h5, h6⟩ := h2.get hp
          rw [hw, Option.some.injEq] at h5
          rw [h5]; exact h6
        obtain ⟨_, cells, e', fr, hb, _⟩ := hcell 0 h0 0 u.size_pos
        have hbound : a.off + len * u.size ≤ cells.size := by
          obtain ⟨_, cells', e2, fr2, hb', h4, _⟩ := hcell (len - 1) (by omega) (u.size - 1) (by have := u.size_pos; omega)
          rw [hb] at hb'
          simp only [Option.some.injEq, Obj.cells.injEq] at hb'
          obtain ⟨rfl, _, _⟩ := hb'
          have h5 := (Array.getElem?_eq_some_iff.1 h4).1
          have h6 : len * u.size = (len - 1) * u.size + u.size := by
            have : len = (len - 1) + 1 := by omega
            rw [this, Nat.add_mul, Nat.one_mul]; simp
          have := u.size_pos
          omega
        have key : PR (HW W) (.lst u ((List.range len).map f)) (.slice (some ⟨a.block, a.off, none⟩) ((List.range len).map f).length cap) := by
          refine .lst u _ a.block a.off cap cells e' fr hb (by rw [hfl]; exact hl) hm (by rw [hfl]; exact hbound) ?_
          intro i y hy j p hp w hw
          have hi : i < len := by have := (List.getElem?_eq_some_iff.1 hy).1; omega
          simp only [List.getElem?_map, List.getElem?_range hi, Option.map_some, Option.some.injEq] at hy
          subst hy
          have hj : j < u.size := by have := (List.getElem?_eq_some_iff.1 hp).1; rw [u.enc_length] at this; exact this
          obtain ⟨w', cells', e2, fr2, hb', h4, h5⟩ := hcell i hi j hj
          rw [hb] at hb'
          simp only [Option.some.injEq, Obj.cells.injEq] at hb'
          obtain ⟨rfl, _, _⟩ := hb'
          rw [hw, Option.some.injEq] at h4
          rw [h4]; exact h5 p hp
        rw [hfl] at key
        obtain ⟨b, off, sp⟩ := a
        simp only at hs
        subst hs
        exact key
    · intro hw
      simp only [DataW.weights, ht, List.all_cons, List.all_append, Bool.and_eq_true, decide_eq_true_eq, List.length_map, List.length_range] at hw ⊢
      refine ⟨fun r hr => ?_, Nat.le_trans (Nat.mul_le_mul_right _ (by omega)) hw.1⟩
      obtain ⟨i, hi, rfl⟩ := List.mem_map.1 hr
      exact (hf i (List.mem_range.1 hi)).2 (weights_all hw.2.1 _ (List.mem_map.2 ⟨i, hi, rfl⟩))
end
def InI (n : Int) : Prop := -9223372036854775808 ≤ n ∧ n ≤ 9223372036854775807
theorem inI {n : Int} (h : (Lit.int .i64 n).wf = true) : InI n := by
  simp only [Lit.wf, Bool.and_eq_true, decide_eq_true_eq] at h
  have h1 : IntKind.i64.min = -9223372036854775808 := by decide
  have h2 : IntKind.i64.max = 9223372036854775807 := by decide
  rw [h1, h2] at h
  exact h
section
variable {Hh : Type} {enc : TypeId × Value → Hh} {W : World} {base : Nat} {spare : Nat → Bool} {held : Bool}
theorem deed_opened (n : Nat) (cs : List Value) (y : DataW Hh × List MemPlace) (h : DataW.trod enc Tryz.prog W base spare held n 60 cs = some y) : ∃ d : Deed, All2 (PR (HW W)) (ETy.deed.enc d) cs ∧ ((y.1.weights Tryz.prog 60).all (· ≤ reachBytes) = true → room d.expr.length 32) := by
  obtain ⟨xs, m, _, hy, hl, hlen, hf⟩ := DataW.trod_struct Tryz.underlying60 h
  have c0 : Tryz.prog.cellsOf 60 = 3 := by kernel_rfl
  have c1 : Tryz.prog.cellsOf 3 = 1 := by kernel_rfl
  have c2 : Tryz.prog.cellsOf 58 = 1 := by kernel_rfl
  have c9 : Tryz.prog.cellsOf 9 = 1 := by kernel_rfl
  have l3 : xs.length = 3 := hlen
  match xs, l3 with
  | [y0, y1, y2], _ =>
  obtain ⟨a, h0, w0⟩ := one_int Tryz.underlying3 (hf 0 _ rfl) rfl
  obtain ⟨s, h1⟩ := one_string Tryz.underlying9 (hf 1 _ rfl) rfl
  obtain ⟨l, v, h2, hp, hq⟩ := slice_deep .cell (Q := fun _ => True) Tryz.underlying58 (by kernel_rfl) (fun n cs y h => by
    obtain ⟨c, q, _⟩ := cell_opened n cs y h
    exact ⟨c, q, fun _ => trivial⟩) (hf 2 _ rfl)
  replace h0 : List.take (Tryz.prog.cellsOf 3) (List.drop 0 cs) = [.int .i64 a] := h0
  replace h1 : List.take (Tryz.prog.cellsOf 9) (List.drop 1 cs) = [.string (bs s)] := h1
  replace h2 : List.take (Tryz.prog.cellsOf 58) (List.drop 2 cs) = [v] := h2
  rw [c0] at hl
  rw [c1] at h0
  rw [c2] at h2
  rw [c9] at h1
  have hw : (y.1.weights Tryz.prog 60).all (· ≤ reachBytes) = true → room l.length 32 := by
    intro hw
    rw [hy] at hw
    have hw2 : (y0.1.weights Tryz.prog 3 ++ (y1.1.weights Tryz.prog 9 ++ (y2.1.weights Tryz.prog 58 ++ []))).all (· ≤ reachBytes) = true := by
      simpa [DataW.weights, Tryz.underlying60, DataW.weightsEach] using hw
    simp only [List.all_append, List.append_nil, Bool.and_eq_true] at hw2
    have h4 := (hq hw2.2.2).2
    have hb : Tryz.prog.bytesOf 88 = 32 := by kernel_rfl
    rw [hb] at h4
    unfold reachBytes at h4
    exact ⟨by omega, by unfold maxLen; omega⟩
  match cs, hl with
  | [u0, u1, u2], _ =>
    simp at h0 h1 h2
    subst h0; subst h1; subst h2
    exact ⟨⟨a, s, l⟩, .cons (.int _ a) (.cons (.str s) (.cons hp .nil)), hw⟩
theorem deeds_arg {v : Value} {d : DataW Hh} {ps : List MemPlace} {b0 : Nat} (h : DataW.Trod enc Tryz.prog W base spare held 22 v d ps) (hv : Value.okWide Tryz.prog W .any b0 22 v) :
    ∃ l : List Deed, SX.R (VW W) (.c (.pd (.lst .deed l))) v ∧ ((d.weights Tryz.prog 22).all (· ≤ reachBytes) = true → room l.length 48 ∧ ∀ a ∈ l, room a.expr.length 32) := by
  have hv' : Cell.okWide Tryz.prog W .any b0 22 v := by simpa only [Value.okWide, Tryz.underlying22] using hv
  obtain ⟨fuel, hf⟩ := h
  have hc : v.cells.toList = [v] := by
    have hv2 := hv'
    simp only [Cell.okWide, Tryz.underlying22, Cell.ok] at hv2
    cases v <;> first | rfl | exact hv2.elim
  rw [hc] at hf
  obtain ⟨l, v', h1, h2, h3⟩ := slice_deep .deed (Q := fun a => room a.expr.length 32) Tryz.underlying22 (by kernel_rfl) deed_opened hf
  simp only [List.cons.injEq, and_true] at h1
  subst h1
  have hb : Tryz.prog.bytesOf 60 = 48 := by kernel_rfl
  rw [hb] at h3
  refine ⟨l, h2, fun hw => ?_⟩
  have h4 := h3 hw
  unfold reachBytes at h4
  exact ⟨⟨by omega, by unfold maxLen; omega⟩, h4.1⟩
theorem val_opened (n : Nat) (cs : List Value) (y : DataW Hh × List MemPlace) (h : DataW.trod enc Tryz.prog W base spare held n 49 cs = some y) : ∃ v : Val, All2 (PR (HW W)) (ETy.val.enc v) cs ∧ i64 v.a = true := by
  obtain ⟨xs, m, _, rfl, hl, hlen, hf⟩ := DataW.trod_struct Tryz.underlying49 h
  have c0 : Tryz.prog.cellsOf 49 = 3 := by kernel_rfl
  have c1 : Tryz.prog.cellsOf 3 = 1 := by kernel_rfl
  have c2 : Tryz.prog.cellsOf 2 = 1 := by kernel_rfl
  have l3 : xs.length = 3 := hlen
  obtain ⟨a, h0, w0⟩ := one_int Tryz.underlying3 (hf 0 _ rfl) (by rw [List.getElem?_eq_getElem (by omega)]; rfl)
  obtain ⟨b, h1, w1⟩ := one_int Tryz.underlying2 (hf 1 _ rfl) (by rw [List.getElem?_eq_getElem (by omega)]; rfl)
  obtain ⟨c, h2, w2⟩ := one_int Tryz.underlying2 (hf 2 _ rfl) (by rw [List.getElem?_eq_getElem (by omega)]; rfl)
  replace h0 : List.take (Tryz.prog.cellsOf 3) (List.drop 0 cs) = [.int .i64 a] := h0
  replace h1 : List.take (Tryz.prog.cellsOf 2) (List.drop 1 cs) = [.int .i64 b] := h1
  replace h2 : List.take (Tryz.prog.cellsOf 2) (List.drop 2 cs) = [.int .i64 c] := h2
  rw [c0] at hl
  rw [c1] at h0
  rw [c2] at h1 h2
  match cs, hl with
  | [u0, u1, u2], _ =>
    simp at h0 h1 h2
    subst h0; subst h1; subst h2
    exact ⟨⟨a, b, c⟩, .cons (.int _ a) (.cons (.int _ b) (.cons (.int _ c) .nil)), i64_iff.2 (inI w1)⟩
theorem var_opened (n : Nat) (cs : List Value) (y : DataW Hh × List MemPlace) (h : DataW.trod enc Tryz.prog W base spare held n 51 cs = some y) : ∃ v : Var, All2 (PR (HW W)) (ETy.var.enc v) cs ∧ True := by
  obtain ⟨xs, m, _, rfl, hl, hlen, hf⟩ := DataW.trod_struct Tryz.underlying51 h
  have c0 : Tryz.prog.cellsOf 51 = 7 := by kernel_rfl
  have c1 : Tryz.prog.cellsOf 3 = 1 := by kernel_rfl
  have c2 : Tryz.prog.cellsOf 2 = 1 := by kernel_rfl
  have c9 : Tryz.prog.cellsOf 9 = 1 := by kernel_rfl
  have c3 : Tryz.prog.cellsOf 49 = 3 := by kernel_rfl
  have l5 : xs.length = 5 := hlen
  obtain ⟨s, h0⟩ := one_string Tryz.underlying9 (hf 0 _ rfl) (by rw [List.getElem?_eq_getElem (by omega)]; rfl)
  obtain ⟨a, h1, w1⟩ := one_int Tryz.underlying3 (hf 1 _ rfl) (by rw [List.getElem?_eq_getElem (by omega)]; rfl)
  obtain ⟨b, h2, w2⟩ := one_int Tryz.underlying2 (hf 2 _ rfl) (by rw [List.getElem?_eq_getElem (by omega)]; rfl)
  obtain ⟨c, h3, w3⟩ := one_int Tryz.underlying2 (hf 3 _ rfl) (by rw [List.getElem?_eq_getElem (by omega)]; rfl)
  have h4' := hf 4 _ rfl
  rw [List.getElem?_eq_getElem (by omega)] at h4'
  obtain ⟨v, h4, _⟩ := val_opened _ _ _ h4'
  replace h0 : List.take (Tryz.prog.cellsOf 9) (List.drop 0 cs) = [.string (bs s)] := h0
  replace h1 : List.take (Tryz.prog.cellsOf 3) (List.drop 1 cs) = [.int .i64 a] := h1
  replace h2 : List.take (Tryz.prog.cellsOf 2) (List.drop 2 cs) = [.int .i64 b] := h2
  replace h3 : List.take (Tryz.prog.cellsOf 2) (List.drop 3 cs) = [.int .i64 c] := h3
  replace h4 : All2 (PR (HW W)) (ETy.val.enc v) (List.take (Tryz.prog.cellsOf 49) (List.drop 4 cs)) := h4
  rw [c0] at hl
  rw [c9] at h0
  rw [c1] at h1
  rw [c2] at h2 h3
  rw [c3] at h4
  match cs, hl with
  | [u0, u1, u2, u3, u4, u5, u6], _ =>
    simp at h0 h1 h2 h3 h4
    subst h0; subst h1; subst h2; subst h3
    exact ⟨⟨s, a, b, c, v⟩, .cons (.str s) (.cons (.int _ a) (.cons (.int _ b) (.cons (.int _ c) h4))), trivial⟩
theorem two_of {cs : Array Value} (h : cs.size = 2) : ∃ a b, cs = #[a, b] := by
  obtain ⟨l⟩ := cs
  match l, h with
  | [a, b], _ => exact ⟨a, b, rfl⟩
theorem scope_arg {v : Value} {d : DataW Hh} {ps : List MemPlace} {b0 : Nat} (h : DataW.Trod enc Tryz.prog W base spare held 34 v d ps) (hv : Value.okWide Tryz.prog W .any b0 34 v) :
    ∃ (vars : List Var) (vals : List Val), SX.R (VW W) (.agg [.pd (.lst .var vars), .pd (.lst .val vals)]) v ∧
      ((d.weights Tryz.prog 34).all (· ≤ reachBytes) = true → room vars.length 64 ∧ room vals.length 24 ∧ ∀ x ∈ vals, i64 x.a = true) := by
  simp only [Value.okWide, Tryz.underlying34] at hv
  obtain ⟨cs, rfl, hsz, ts, hts, _, hcs⟩ := hv
  have c26 : Tryz.prog.cellsOf 34 = 2 := by kernel_rfl
  rw [c26] at hsz
  obtain ⟨v1, v2, rfl⟩ := two_of hsz
  obtain ⟨fuel, hf⟩ := h
  obtain ⟨xs, m, _, hx, hl, hlen, hf⟩ := DataW.trod_struct Tryz.underlying34 hf
  have l2 : xs.length = 2 := hlen
  have h0 := hf 0 _ rfl
  have h1 := hf 1 _ rfl
  match xs, l2 with
  | [y0, y1], _ =>
  have c23 : Tryz.prog.cellsOf 31 = 1 := by kernel_rfl
  have c24 : Tryz.prog.cellsOf 32 = 1 := by kernel_rfl
  replace h0 : DataW.trod enc Tryz.prog W base spare held m 31 (([v1, v2].drop 0).take (Tryz.prog.cellsOf 31)) = some y0 := h0
  replace h1 : DataW.trod enc Tryz.prog W base spare held m 32 (([v1, v2].drop 1).take (Tryz.prog.cellsOf 32)) = some y1 := h1
  rw [c23] at h0
  rw [c24] at h1
  obtain ⟨vars, u1, e1, q1, q3⟩ := slice_deep .var (Q := fun _ => True) Tryz.underlying31 (by kernel_rfl) (fun n cs y h => by
    obtain ⟨c, q, _⟩ := var_opened n cs y h
    exact ⟨c, q, fun _ => trivial⟩) h0
  obtain ⟨vals, u2, e2, r1, r3⟩ := slice_deep .val (Q := fun v => i64 v.a = true) Tryz.underlying32 (by kernel_rfl) (fun n cs y h => by
    obtain ⟨c, q, hi⟩ := val_opened n cs y h
    exact ⟨c, q, fun _ => hi⟩) h1
  simp at e1 e2
  subst e1; subst e2
  refine ⟨vars, vals, ⟨[v1, v2], rfl, .cons q1 (.cons r1 .nil)⟩, fun hw => ?_⟩
  simp only [Prod.mk.injEq] at hx
  rw [hx.1] at hw
  have hw2 : (y0.1.weights Tryz.prog 31 ++ (y1.1.weights Tryz.prog 32 ++ [])).all (· ≤ reachBytes) = true := by
    simpa [DataW.weights, Tryz.underlying34, DataW.weightsEach] using hw
  rw [List.all_append, List.append_nil, Bool.and_eq_true] at hw2
  have h4 := (q3 hw2.1).2
  have h5 := r3 hw2.2
  have e : Tryz.prog.bytesOf 51 = 64 := by kernel_rfl
  have e' : Tryz.prog.bytesOf 49 = 24 := by kernel_rfl
  rw [e] at h4
  rw [e'] at h5
  unfold reachBytes at h4 h5
  exact ⟨⟨by omega, by unfold maxLen; omega⟩, ⟨by omega, by unfold maxLen; omega⟩, h5.1⟩
end
end Go.Proofs.YtjndellhebidoaaGreatDoor
namespace Go.Proofs.YtjndellhebidoaaGreatDoor
open Go Go.Ev
set_option maxRecDepth 100000
theorem do_mark (l : List Deed) (vs : List Var) (vals : List Val) (hl : l.length ≤ 1000000) (hr : room vals.length 24) (hv : ∀ v ∈ vals, i64 v.a = true) :
    Does Tryz.prog 14 [.l .deed l, .l .var vs, .l .val vals] [] (.tup [.c (.own 0), .c (.own 1), .c (.own 2), .b (doM l vs vals).2.2.2]) [.own 49 .val (doM l vs vals).1, .own 9 .str (doM l vs vals).2.1, .own 9 .str (doM l vs vals).2.2.1, .dead] :=
  Does.mark (do_spec l vs vals hl hr hv)
def eDoM : Nat × (List SX → List Chunk → Option (Option Prop × SV × List Chunk)) := (14, fun
  | [.c (.pd (.lst .deed l)), .c (.pd (.lst .var vs)), .c (.pd (.lst .val vals))], [] => some (some (l.length ≤ 1000000 ∧ room vals.length 24 ∧ ∀ v ∈ vals, i64 v.a = true), .tup [.c (.own 0), .c (.own 1), .c (.own 2), .c (.pd (.bool (doM l vs vals).2.2.2))], [.own 49 .val (doM l vs vals).1, .own 9 .str (doM l vs vals).2.1, .own 9 .str (doM l vs vals).2.2.1, .dead])
  | _, _ => none)
theorem eDoM_ok (vs : List SX) (ck : List Chunk) (p : Option Prop) (ret : SV) (ck' : List Chunk) (h : eDoM.2 vs ck = some (p, ret, ck')) (hp : Holds p) : Does Tryz.prog eDoM.1 vs ck ret ck' := by
  unfold eDoM at h
  simp only at h
  split at h
  · rename_i l vs vals
    simp only [Option.some.injEq, Prod.mk.injEq] at h
    obtain ⟨rfl, rfl, rfl⟩ := h
    exact do_mark l vs vals hp.1 hp.2.1 hp.2.2
  · simp at h
def cfgParts : Cfg := ⟨tys0, [eWk6, eLong, eCpd, eDoM, eSv, eSameS]⟩
theorem cfgParts_ok : TabOk Tryz.prog cfgParts.tab := (TabOk.cons eWk6_ok (TabOk.cons eLong_ok (TabOk.cons eCpd_ok (TabOk.cons eDoM_ok (TabOk.cons eSv_ok (TabOk.cons eSameS_ok TabOk.nil))))))
/-! ### two parts -/
theorem doGo_acc (vs : List Var) : ∀ (l : List Deed) (cur : List Val) (rs ss : List Str), doGo vs l cur rs ss = ((doGo vs l cur [] []).1, rs ++ (doGo vs l cur [] []).2.1, ss ++ (doGo vs l cur [] []).2.2.1, (doGo vs l cur [] []).2.2.2)
  | [], cur, rs, ss => by simp [doGo]
  | d :: r, cur, rs, ss => by
    rw [doGo, doGo]
    cases d.kind == 2
    · cases d.kind == 3
      · cases d.kind == 1
        · simp
        · cases setOk vs cur d
          · simp
          · simp only [cond_false, cond_true]; exact doGo_acc vs r _ rs ss
      · simp only [cond_false, cond_true]
        rw [doGo_acc vs r cur rs (ss ++ [d.name]), doGo_acc vs r cur [] ([] ++ [d.name])]
        simp
    · simp only [cond_true]
      rw [doGo_acc vs r cur (rs ++ [d.name]) ss, doGo_acc vs r cur ([] ++ [d.name]) []]
      simp
theorem doGo_two (vs : List Var) (l2 : List Deed) : ∀ (l1 : List Deed) (cur : List Val) (rs ss : List Str), doGo vs (l1 ++ l2) cur rs ss =
    bif (doGo vs l1 cur rs ss).2.2.2 then doGo vs l2 (doGo vs l1 cur rs ss).1 (doGo vs l1 cur rs ss).2.1 (doGo vs l1 cur rs ss).2.2.1 else doGo vs l1 cur rs ss
  | [], cur, rs, ss => rfl
  | d :: r, cur, rs, ss => by
    rw [List.cons_append, doGo, doGo]
    cases d.kind == 2
    · cases d.kind == 3
      · cases d.kind == 1
        · rfl
        · cases setOk vs cur d
          · rfl
          · simp only [cond_false, cond_true]; exact doGo_two vs l2 r _ rs ss
      · simp only [cond_false, cond_true]; exact doGo_two vs l2 r cur rs (ss ++ [d.name])
    · simp only [cond_true]; exact doGo_two vs l2 r cur (rs ++ [d.name]) ss
theorem doM_two (l : List Deed) (vs : List Var) (vals : List Val) (a : Nat) : doM l vs vals =
    bif (doM (l.take a) vs vals).2.2.2 then ((doM (l.drop a) vs (doM (l.take a) vs vals).1).1, (doM (l.take a) vs vals).2.1 ++ (doM (l.drop a) vs (doM (l.take a) vs vals).1).2.1, (doM (l.take a) vs vals).2.2.1 ++ (doM (l.drop a) vs (doM (l.take a) vs vals).1).2.2.1, (doM (l.drop a) vs (doM (l.take a) vs vals).1).2.2.2) else doM (l.take a) vs vals := by
  have h := doGo_two vs (l.drop a) (l.take a) vals [] []
  rw [List.take_append_drop] at h
  unfold doM
  rw [h]
  cases (doGo vs (l.take a) vals [] []).2.2.2
  · rfl
  · simp only [cond_true]
    rw [doGo_acc]
theorem doGo_len (vs : List Var) : ∀ (l : List Deed) (cur : List Val) (rs ss : List Str), (doGo vs l cur rs ss).2.1.length ≤ rs.length + l.length ∧ (doGo vs l cur rs ss).2.2.1.length ≤ ss.length + l.length
  | [], cur, rs, ss => by simp [doGo]
  | d :: r, cur, rs, ss => by
    rw [doGo]
    cases d.kind == 2
    · cases d.kind == 3
      · cases d.kind == 1
        · simp
        · cases setOk vs cur d
          · simp
          · simp only [cond_false, cond_true]
            have := doGo_len vs r (cur.set (ixV vs d.name).toNat (evalM d.expr vs cur []).1) rs ss
            simp only [List.length_cons]; omega
      · simp only [cond_false, cond_true]
        have := doGo_len vs r cur rs (ss ++ [d.name])
        simp only [List.length_append, List.length_cons, List.length_nil] at this ⊢; omega
    · simp only [cond_true]
      have := doGo_len vs r cur (rs ++ [d.name]) ss
      simp only [List.length_append, List.length_cons, List.length_nil] at this ⊢; omega
theorem doGo_i64 (vs : List Var) : ∀ (l : List Deed) (cur : List Val) (rs ss : List Str), (∀ v ∈ cur, i64 v.a = true) → (doGo vs l cur rs ss).1.length = cur.length ∧ ∀ v ∈ (doGo vs l cur rs ss).1, i64 v.a = true
  | [], cur, rs, ss, hv => ⟨rfl, hv⟩
  | d :: r, cur, rs, ss, hv => by
    rw [doGo]
    cases d.kind == 2
    · cases d.kind == 3
      · cases d.kind == 1
        · exact ⟨rfl, hv⟩
        · cases hs : setOk vs cur d
          · exact ⟨rfl, hv⟩
          · obtain ⟨g1, g2, g3, g4⟩ := setOk_parts hv hs
            simp only [cond_false, cond_true]
            obtain ⟨i1, i2⟩ := doGo_i64 vs r (cur.set (ixV vs d.name).toNat (evalM d.expr vs cur []).1) rs ss (set_i64 hv g4)
            exact ⟨by rw [i1, List.length_set], i2⟩
      · exact doGo_i64 vs r cur rs (ss ++ [d.name]) hv
    · exact doGo_i64 vs r cur (rs ++ [d.name]) ss hv

theorem acts_parts_spec (l : List Deed) (vs : List Var) (vals : List Val) (at_ : Int) (hr : room l.length 48) (hx : ∀ a ∈ l, room a.expr.length 32) (hvl : room vals.length 24) (hv : ∀ v ∈ vals, i64 v.a = true) :
    Does Tryz.prog 5 [.l .deed l, .agg [.pd (.lst .var vs), .pd (.lst .val vals)], .i at_] [] (.x (.b true)) [] := by
  refine Does.go (cfg := cfgParts) cfgParts_ok Tryz.func5 (by kernel_rfl) (by kernel_rfl) (t := (.ite false (.ret (.p (.bool false)) []) (.ite (decide ((↑(List.length l) : Int) > (100 : Int)) || decide (at_ < (0 : Int)) || decide (at_ > (↑(List.length l) : Int))) (.ret (.p (.bool true)) []) (.need (room (List.length l) 48 ∧ ∀ (a : ETy.den .deed), a ∈ l → room (List.length (Deed.expr a)) 32) (.need (List.length l ≤ 1000000 ∧ room (List.length vals) 24 ∧ ∀ (v : ETy.den .val), v ∈ vals → i64 (Val.a v) = true) (.need ((0 : Int) ≤ at_ ∧ at_ ≤ (↑(List.length l) : Int)) (.need (room (List.length (Prod.snd (cutL l none (some at_)))) 48 ∧ ∀ (a : ETy.den .deed), a ∈ Prod.snd (cutL l none (some at_)) → room (List.length (Deed.expr a)) 32) (.need (List.length (Prod.snd (cutL l none (some at_))) ≤ 1000000 ∧ room (List.length vals) 24 ∧ ∀ (v : ETy.den .val), v ∈ vals → i64 (Val.a v) = true) (.ite (Prod.snd (Prod.snd (Prod.snd (doM (Prod.snd (cutL l none (some at_))) vs vals)))) (.stop [.code [1, 1, 1, 1, 1, 0, 1, 0, 0], .code [1, 1, 1, 1, 1, 0, 1, 0, 1], .code [1, 1, 1, 1, 1, 1]] { n := 99, fr := [(11, .x (.c (.own 4))), (12, .x (.c (.own 5))), (13, .x (.c (.own 6))), (7, .x (.c (.own 1))), (8, .x (.c (.own 2))), (9, .x (.c (.own 3))), (10, .p (.bool (Prod.snd (Prod.snd (Prod.snd (doM l vs vals)))))), (0, .p (.lst .deed l)), (2, .i at_), (4, .x (.c (.loc 0 0))), (6, .p (.bool false))], ck := [.cells [.pd (.lst .var vs), .pd (.lst .val vals)] 34, .own 49 .val (Prod.fst (doM l vs vals)), .own 9 .str (Prod.fst (Prod.snd (doM l vs vals))), .own 9 .str (Prod.fst (Prod.snd (Prod.snd (doM l vs vals)))), .own 49 .val (Prod.fst (doM (Prod.snd (cutL l none (some at_))) vs vals)), .own 9 .str (Prod.fst (Prod.snd (doM (Prod.snd (cutL l none (some at_))) vs vals))), .own 9 .str (Prod.fst (Prod.snd (Prod.snd (doM (Prod.snd (cutL l none (some at_))) vs vals))))] }) (.ret (.p (.bool (sameVals (Prod.fst (doM l vs vals)) (Prod.fst (doM (Prod.snd (cutL l none (some at_))) vs vals)) && Prod.fst (Prod.snd (doM l vs vals)) == Prod.fst (Prod.snd (doM (Prod.snd (cutL l none (some at_))) vs vals)) && Prod.fst (Prod.snd (Prod.snd (doM l vs vals))) == Prod.fst (Prod.snd (Prod.snd (doM (Prod.snd (cutL l none (some at_))) vs vals))) && Prod.snd (Prod.snd (Prod.snd (doM l vs vals))) == Prod.snd (Prod.snd (Prod.snd (doM (Prod.snd (cutL l none (some at_))) vs vals)))))) [])))))))))) (by kernel_rfl) fun Γ => ?_
  refine ⟨fun x => Bool.noConfusion x, fun _ => ⟨fun _ => ⟨rfl, rfl⟩, fun h => ?_⟩⟩
  simp only [Bool.or_eq_false_iff, decide_eq_false_iff_not] at h
  have hl : l.length ≤ 100 := by omega
  have hla : (cutL l none (some at_)).2 = l.take at_.toNat := by simp [cutL]
  have hlb : (cutL l (some at_) none).2 = l.drop at_.toNat := by simp [cutL]
  have h1 : ∀ a ∈ (cutL l none (some at_)).2, room a.expr.length 32 := fun a ha => hx a (by rw [hla] at ha; exact List.mem_of_mem_take ha)
  have h2 : ∀ a ∈ (cutL l (some at_) none).2, room a.expr.length 32 := fun a ha => hx a (by rw [hlb] at ha; exact List.mem_of_mem_drop ha)
  have l1 : (cutL l none (some at_)).2.length ≤ 100 := by rw [hla, List.length_take]; omega
  have l2 : (cutL l (some at_) none).2.length ≤ 100 := by rw [hlb, List.length_drop]; omega
  have rf : ∀ {n : Nat}, n ≤ 100 → room n 48 := fun h => by unfold room maxLen; omega
  have htwo := doM_two l vs vals at_.toNat
  rw [← hla, ← hlb] at htwo
  obtain ⟨d1, d2⟩ := doGo_i64 vs (cutL l none (some at_)).2 vals [] [] hv
  have d1' : (doM (cutL l none (some at_)).2 vs vals).1.length = vals.length := d1
  refine ⟨⟨hr, hx⟩, ⟨by omega, hvl, hv⟩, by omega, ⟨rf l1, h1⟩, ⟨by omega, hvl, hv⟩, fun hok => ?_, fun hok => ?_⟩
  · have hz : J Tryz.prog 5 (bodyOf Tryz.f5) Γ (Eq2 (.x (.b true)) []) [.code [1, 1, 1, 1, 1, 0, 1, 0, 0], .code [1, 1, 1, 1, 1, 0, 1, 0, 1], .code [1, 1, 1, 1, 1, 1]] ({ n := 99, fr := [(11, .p (.lst .val ((doM (Prod.snd (cutL l none (some at_))) vs vals).1))), (12, .x (.c (.own 5))), (13, .x (.c (.own 6))), (7, .x (.c (.own 1))), (8, .x (.c (.own 2))), (9, .x (.c (.own 3))), (10, .p (.bool (Prod.snd (Prod.snd (Prod.snd (doM l vs vals)))))), (0, .p (.lst .deed l)), (2, .i at_), (4, .x (.c (.loc 0 0))), (6, .p (.bool false))], ck := [.cells [.pd (.lst .var vs), .pd (.lst .val vals)] 34, .own 49 .val (doM l vs vals).1, .own 9 .str (doM l vs vals).2.1, .own 9 .str (doM l vs vals).2.2.1, .dead, .own 9 .str (doM (Prod.snd (cutL l none (some at_))) vs vals).2.1, .own 9 .str (doM (Prod.snd (cutL l none (some at_))) vs vals).2.2.1] }) := by
      refine J.go (cfg := cfgParts) cfgParts_ok Tryz.func5 1000 (t := (.need ((0 : Int) ≤ at_ ∧ at_ ≤ (↑(List.length l) : Int)) (.need (room (List.length (Prod.snd (cutL l (some at_) none))) 48 ∧ ∀ (a : ETy.den .deed), a ∈ Prod.snd (cutL l (some at_) none) → room (List.length (Deed.expr a)) 32) (.need (List.length (Prod.snd (cutL l (some at_) none)) ≤ 1000000 ∧ room (List.length (Prod.fst (doM (Prod.snd (cutL l none (some at_))) vs vals))) 24 ∧ ∀ (v : ETy.den .val), v ∈ Prod.fst (doM (Prod.snd (cutL l none (some at_))) vs vals) → i64 (Val.a v) = true) (.need (room (List.length (Prod.fst (Prod.snd (doM (Prod.snd (cutL l none (some at_))) vs vals)) ++ Prod.fst (Prod.snd (doM (Prod.snd (cutL l (some at_) none)) vs (Prod.fst (doM (Prod.snd (cutL l none (some at_))) vs vals)))))) 16) (.need (room (List.length (Prod.fst (Prod.snd (Prod.snd (doM (Prod.snd (cutL l none (some at_))) vs vals))) ++ Prod.fst (Prod.snd (Prod.snd (doM (Prod.snd (cutL l (some at_) none)) vs (Prod.fst (doM (Prod.snd (cutL l none (some at_))) vs vals))))))) 16) (.ret (.p (.bool (sameVals (Prod.fst (doM l vs vals)) (Prod.fst (doM (Prod.snd (cutL l (some at_) none)) vs (Prod.fst (doM (Prod.snd (cutL l none (some at_))) vs vals)))) && Prod.fst (Prod.snd (doM l vs vals)) == Prod.fst (Prod.snd (doM (Prod.snd (cutL l none (some at_))) vs vals)) ++ Prod.fst (Prod.snd (doM (Prod.snd (cutL l (some at_) none)) vs (Prod.fst (doM (Prod.snd (cutL l none (some at_))) vs vals)))) && Prod.fst (Prod.snd (Prod.snd (doM l vs vals))) == Prod.fst (Prod.snd (Prod.snd (doM (Prod.snd (cutL l none (some at_))) vs vals))) ++ Prod.fst (Prod.snd (Prod.snd (doM (Prod.snd (cutL l (some at_) none)) vs (Prod.fst (doM (Prod.snd (cutL l none (some at_))) vs vals))))) && Prod.snd (Prod.snd (Prod.snd (doM l vs vals))) == Prod.snd (Prod.snd (Prod.snd (doM (Prod.snd (cutL l (some at_) none)) vs (Prod.fst (doM (Prod.snd (cutL l none (some at_))) vs vals)))))))) []))))))) (by kernel_rfl) ?_
      have e1 := doGo_len vs (cutL l none (some at_)).2 vals [] []
      have e2 := doGo_len vs (cutL l (some at_) none).2 (doM (cutL l none (some at_)).2 vs vals).1 [] []
      have e1a : (doM (cutL l none (some at_)).2 vs vals).2.1.length ≤ 100 := by have := e1.1; simp only [List.length_nil] at this; unfold doM; omega
      have e1b : (doM (cutL l none (some at_)).2 vs vals).2.2.1.length ≤ 100 := by have := e1.2; simp only [List.length_nil] at this; unfold doM; omega
      have e2a : (doM (cutL l (some at_) none).2 vs (doM (cutL l none (some at_)).2 vs vals).1).2.1.length ≤ 100 := by have := e2.1; simp only [List.length_nil] at this; unfold doM at this ⊢; omega
      have e2b : (doM (cutL l (some at_) none).2 vs (doM (cutL l none (some at_)).2 vs vals).1).2.2.1.length ≤ 100 := by have := e2.2; simp only [List.length_nil] at this; unfold doM at this ⊢; omega
      refine ⟨by omega, ⟨rf l2, h2⟩, ⟨by omega, by rw [d1']; exact hvl, d2⟩, room_few (by rw [List.length_append]; omega), room_few (by rw [List.length_append]; omega), ?_, rfl⟩
      rw [hok, cond_true] at htwo
      refine congrArg (fun b : Bool => SV.x (SX.b b)) ?_
      rw [htwo]
      simp only [sameVals_self, beq_self_eq_true, Bool.and_self]
    exact J.freeze tys0 [4] (by kernel_rfl) hz
  · rw [hok, cond_false] at htwo
    refine ⟨?_, rfl⟩
    refine congrArg (fun b : Bool => SV.x (SX.b b)) ?_
    rw [htwo]
    simp only [sameVals_self, beq_self_eq_true, Bool.and_self]
end Go.Proofs.YtjndellhebidoaaGreatDoor
namespace Go.Proofs.YtjndellhebidoaaGreatDoor
open Go Go.Ev Go.RowKit Go.ChangeShapes Go.WideShapes Go.ChangeAt
set_option maxRecDepth 100000
theorem int_arg {Hh : Type} {enc : TypeId × Value → Hh} {W : World} {base : Nat} {spare : Nat → Bool} {held : Bool} {v : Value} {d : DataW Hh} {ps : List MemPlace} {b0 : Nat} (h : DataW.Trod enc Tryz.prog W base spare held 3 v d ps) (hv : Value.okWide Tryz.prog W .any b0 3 v) :
    ∃ n : Int, SX.R (VW W) (.c (.pd (.int .i64 n))) v ∧ -9223372036854775808 ≤ n ∧ n ≤ 9223372036854775807 := by
  have hv' : Cell.okWide Tryz.prog W .any b0 3 v := by simpa only [Value.okWide, Tryz.underlying3] using hv
  obtain ⟨fuel, hf⟩ := h
  have hc : v.cells.toList = [v] := by
    have hv2 := hv'
    simp only [Cell.okWide, Tryz.underlying3, Cell.ok] at hv2
    cases v <;> first | rfl | exact hv2.elim
  rw [hc] at hf
  obtain ⟨n, h1, _, h2⟩ := DataW.trod_int Tryz.underlying3 hf
  simp only [List.cons.injEq, and_true] at h1
  subst h1
  simp only [Lit.wf, Bool.and_eq_true, decide_eq_true_eq] at h2
  have e1 : IntKind.i64.min = -9223372036854775808 := by decide
  have e2 : IntKind.i64.max = 9223372036854775807 := by decide
  rw [e1, e2] at h2
  exact ⟨n, .int _ n, h2.1, h2.2⟩
end Go.Proofs.YtjndellhebidoaaGreatDoor

/- An executor for function bodies of the model over data, part PD: the computing operations do what part PC says. Conditions: each operation's own, told as a proposition. -/
import Derived.Test.YtndkapkejmkphaaDoorPC
namespace Go.Ev
open Go.RowKit

theorem run_value {P : Program} {w w' : World} {s : Sem Value} {v : Value} (h : s.run P w = .ok v w') : (do pure (Next.value (← s)) : Sem Next).run P w = .ok (.value v) w' := by
  simp only [Sem.run_bind, h, Result.andThen_ok]; rfl
theorem run_pure' {α : Type} {P : Program} {w : World} (x : α) : (pure x : Sem α).run P w = .ok x w := rfl
theorem extract_bs (s : Str) (l h : Nat) : (bs s).extract l h = bs ((s.take h).drop l) := by
  rw [← bs_eta ((bs s).extract l h), Lib.extract_data, bs_toList]
  congr 1
  rw [List.drop_take]
theorem run_bound {P : Program} {w : World} {k : IntKind} {n : Int} {y : Nat} {c : BoundsCode} (h0 : 0 ≤ n) (h1 : n ≤ y) : (Instr.sliceBound (.int k n) y c).run P w = .ok n.toNat w := by
  simp only [Instr.sliceBound, asIntOf, Sem.run_bind]
  show ((if 0 ≤ n ∧ n ≤ (y : Int) then pure n.toNat else _ : Sem Nat)).run P w = _
  rw [if_pos ⟨h0, h1⟩]; rfl
theorem run_len_string {P : Program} {w : World} {t ty : TypeId} {s : Str} (h : P.underlying t = some .string) : (Builtin.len_ #[t] ty #[.string (bs s)]).run P w = .ok (.int .i64 (strLen s)) w := by
  simp only [Builtin.len_]
  show ((underlying t).bind _).run P w = _
  rw [Sem.run_bind', run_underlying h]
  simp only [Result.andThen_ok]
  unfold strLen; rw [← bs_size]; rfl
theorem run_len_slice {P : Program} {w : World} {t ty e : TypeId} {a : Option Addr} {n c : Nat} (h : P.underlying t = some (.slice e)) : (Builtin.len_ #[t] ty #[.slice a n c]).run P w = .ok (.int .i64 n) w := by
  simp only [Builtin.len_]
  show ((underlying t).bind _).run P w = _
  rw [Sem.run_bind', run_underlying h]
  rfl
theorem fieldOf_struct {P : Program} {t : TypeId} {i : Nat} {fd : Field} (h : fieldOf P t i = some fd) : ∃ fs, P.underlying t = some (.struct fs) ∧ fs[i]? = some fd := by
  unfold fieldOf at h
  split at h
  · rename_i fs hu; exact ⟨fs, hu, h⟩
  · simp at h
def LoOk (lo : Option Value) (h l : Nat) : Prop := (lo = none ∧ l = 0) ∨ ∃ k n, lo = some (.int k n) ∧ 0 ≤ n ∧ n ≤ (h : Int) ∧ l = n.toNat
def HiOk (hi : Option Value) (len cap h : Nat) : Prop := (hi = none ∧ h = len) ∨ ∃ k n, hi = some (.int k n) ∧ 0 ≤ n ∧ n ≤ (cap : Int) ∧ h = n.toNat
theorem run_sb {P : Program} {w : World} {isSlice : Bool} {len cap l h : Nat} {lo hi : Option Value} (h1 : LoOk lo h l) (h2 : HiOk hi len cap h) : (Instr.sliceBounds isSlice len cap lo hi none).run P w = .ok (l, h, cap) w := by
  rcases h1 with ⟨rfl, rfl⟩ | ⟨k, n, rfl, a1, a2, rfl⟩ <;> rcases h2 with ⟨rfl, rfl⟩ | ⟨k', m, rfl, b1, b2, rfl⟩
  · rfl
  · have e : (Instr.sliceBounds isSlice len cap none (some (.int k' m)) none).run P w = ((Instr.sliceBound (.int k' m) cap (if isSlice then .sliceAcap else .sliceAlen)).bind fun h => (pure (0, h, cap) : Sem (Nat × Nat × Nat))).run P w := rfl
    rw [e, Sem.run_bind', run_bound b1 b2]; rfl
  · have e : (Instr.sliceBounds isSlice h cap (some (.int k n)) none none).run P w = ((Instr.sliceBound (.int k n) h .sliceB).bind fun l => (pure (l, h, cap) : Sem (Nat × Nat × Nat))).run P w := rfl
    rw [e, Sem.run_bind', run_bound a1 a2]; rfl
  · have e : (Instr.sliceBounds isSlice len cap (some (.int k n)) (some (.int k' m)) none).run P w =
      ((Instr.sliceBound (.int k' m) cap (if isSlice then .sliceAcap else .sliceAlen)).bind fun h => (Instr.sliceBound (.int k n) h .sliceB).bind fun l => (pure (l, h, cap) : Sem (Nat × Nat × Nat))).run P w := rfl
    rw [e, Sem.run_bind', run_bound b1 b2]
    simp only [Result.andThen_ok]
    rw [Sem.run_bind', run_bound a1 a2]; rfl
theorem run_slice_str {P : Program} {w : World} {t : TypeId} {s : Str} {lo hi : Option Value} {l h m : Nat} (ht : P.underlying t = some .string)
    (hb : (Instr.sliceBounds false (bs s).size (bs s).size lo hi none).run P w = .ok (l, h, m) w) : (Instr.sliceAt t (.string (bs s)) lo hi none).run P w = .ok (.string (bs ((s.take h).drop l))) w := by
  have hs : (Instr.slice t (.string (bs s)) lo hi none).run P w = .ok (.string ((bs s).extract l h)) w := by
    simp only [Instr.slice, Sem.run_bind, run_underlying ht, Result.andThen_ok]
    show ((Instr.sliceBounds false (bs s).size (bs s).size lo hi none).bind _).run P w = _
    rw [Sem.run_bind', hb]
    rfl
  simp only [Instr.sliceAt, Sem.run_bind, run_underlying ht, Result.andThen_ok]
  rw [← extract_bs]
  exact hs
theorem run_slice_lst {P : Program} {w : World} {t e : TypeId} {sz : Nat} {ao : Option Addr} {n cp : Nat} {lo hi : Option Value} {l h : Nat} (ht : P.underlying t = some (.slice e)) (hs : szOf P e = some sz)
    (hb : (Instr.sliceBounds true n cp lo hi none).run P w = .ok (l, h, cp) w) : (Instr.sliceAt t (.slice ao n cp) lo hi none).run P w = .ok (.slice (if cp = l then ao else ao.map (·.add (l * sz))) (h - l) (cp - l)) w := by
  simp only [Instr.sliceAt, Sem.run_bind, run_underlying ht, Result.andThen_ok, Instr.slice]
  rw [hb]
  simp only [Result.andThen_ok, run_szOf hs, run_pure']
theorem run_indexAddr {P : Program} {w : World} {t e : TypeId} {b off n c sz : Nat} {k : IntKind} {j : Int} (hu : P.underlying t = some (.slice e)) (hs : szOf P e = some sz) (h0 : 0 ≤ j) (h1 : j < n) :
    (Instr.indexAt t (.slice (some ⟨b, off, none⟩) n c) (.int k j)).run P w = .ok (.pointer (some ⟨b, off + j.toNat * sz, none⟩)) w := by
  unfold Instr.indexAt
  simp only [Sem.run_bind, asIntOf, run_pure', Result.andThen_ok, run_underlying hu, h0, h1, and_self, if_true, run_szOf hs, addr_add, Bool.and_false]

theorem run_indexArr {P : Program} {w : World} {t e : TypeId} {b off n sz : Nat} {k : IntKind} {j : Int} (hu : P.underlying t = some (.array n e)) (hs : szOf P e = some sz) (h0 : 0 ≤ j) (h1 : j < n) :
    (Instr.indexAt t (.pointer (some ⟨b, off, none⟩)) (.int k j)).run P w = .ok (.pointer (some ⟨b, off + j.toNat * sz, none⟩)) w := by
  unfold Instr.indexAt
  have e1 : (Instr.sureAddr (.pointer (some ⟨b, off, none⟩))).run P w = .ok ⟨b, off, none⟩ w := rfl
  simp only [Sem.run_bind, asIntOf, run_pure', Result.andThen_ok, run_underlying hu, e1, h0, h1, and_self, if_true, run_szOf hs, addr_add]

/-! ### rows of rows -/
theorem flat_length (t : ETy) (l : List t.den) : (l.flatMap t.enc).length = l.length * t.size := by
  induction l with
  | nil => simp
  | cons x l ih => rw [List.flatMap_cons, List.length_append, ih, t.enc_length, List.length_cons, Nat.add_mul]; omega
theorem flat_get {t : ETy} : ∀ {l : List t.den} {i : Nat} {x : t.den}, l[i]? = some x → ∀ {j : Nat} {p : PD}, (t.enc x)[j]? = some p → (l.flatMap t.enc)[i * t.size + j]? = some p
  | [], i, x, h, _, _, _ => by simp at h
  | y :: l, 0, x, h, j, p, hj => by
    simp only [List.getElem?_cons_zero, Option.some.injEq] at h
    subst h
    rw [Nat.zero_mul, Nat.zero_add, List.flatMap_cons, List.getElem?_append_left (List.getElem?_eq_some_iff.1 hj).1]; exact hj
  | y :: l, i + 1, x, h, j, p, hj => by
    simp only [List.getElem?_cons_succ] at h
    have ih := flat_get h hj
    rw [List.flatMap_cons, List.getElem?_append_right (by rw [t.enc_length, Nat.add_mul]; omega), t.enc_length, show (i + 1) * t.size + j - t.size = i * t.size + j from by rw [Nat.add_mul]; omega]
    exact ih
theorem flat_take (t : ETy) (l : List t.den) (n : Nat) : (l.take n).flatMap t.enc = (l.flatMap t.enc).take (n * t.size) := by
  induction l generalizing n with
  | nil => simp
  | cons x l ih =>
    cases n with
    | zero => simp
    | succ n =>
      have h := t.enc_length x
      rw [List.take_succ_cons, List.flatMap_cons, List.flatMap_cons, ih, show (n + 1) * t.size = (t.enc x).length + n * t.size from by rw [h, Nat.add_mul]; omega, List.take_length_add_append]

/-! ### a slice in memory that nobody writes -/
theorem PR.slice_form {H : Mem} {t : ETy} {l : List t.den} {u : Value} (h : PR H (.lst t l) u) : ∃ ao cap, u = .slice ao l.length cap ∧ l.length ≤ cap ∧ (ao = none → cap = 0) := by
  cases h with
  | emp _ ao cap h => exact ⟨ao, cap, rfl, Nat.zero_le _, h⟩
  | lst _ _ b off cap cells e fr hb hc hm hs h => exact ⟨_, cap, rfl, hc, fun h => by cases h⟩
theorem PR.elem {H : Mem} {t : ETy} {l : List t.den} {u : Value} (h : PR H (.lst t l) u) {j : Nat} (hj : j < l.length) :
    ∃ b off cap, u = .slice (some ⟨b, off, none⟩) l.length cap ∧ PR H (.ref t (t.get l j) 0) (.pointer (some ⟨b, off + j * t.size, none⟩)) := by
  cases h with
  | emp _ ao cap h => simp at hj
  | lst _ _ b off cap cells e fr hb hc hm hs h =>
    refine ⟨b, off, cap, rfl, ?_⟩
    have h2 : (j + 1) * t.size ≤ l.length * t.size := Nat.mul_le_mul_right _ hj
    have := PR.ref (H := H) t (t.get l j) 0 b (off + j * t.size) cells e fr hb (by rw [Nat.add_mul] at h2; omega) (fun i p hp u hu => h j _ (ETy.getElem?_get hj) i p hp u hu)
    simpa using this
theorem PR.cut {H : Mem} {t : ETy} {l : List t.den} {ao : Option Addr} {n cap lo hi : Nat} (h : PR H (.lst t l) (.slice ao n cap)) (h1 : lo ≤ hi) (h2 : hi ≤ l.length) :
    PR H (.lst t ((l.take hi).drop lo)) (.slice (if cap = lo then ao else ao.map (·.add (lo * t.size))) (hi - lo) (cap - lo)) := by
  have hl : ((l.take hi).drop lo).length = hi - lo := by simp; omega
  cases h with
  | emp _ _ _ h =>
    have e1 : hi = 0 := by simpa using h2
    have e2 : lo = 0 := by omega
    subst e1; subst e2
    simp only [List.take_nil, List.drop_nil, Nat.sub_zero, Nat.zero_mul]
    refine .emp t _ _ (fun hh => ?_)
    split at hh
    · exact h hh
    · exact h (by simpa using hh)
  | lst _ _ b off _ cells e fr hb hc hm hs h =>
    by_cases hz : hi = lo
    · subst hz
      have : (l.take hi).drop hi = [] := by simp
      rw [this, Nat.sub_self]
      refine .emp t _ _ (fun hh => ?_)
      split at hh <;> simp at hh
    · have hne : ¬ cap = lo := by omega
      rw [if_neg hne]
      simp only [Option.map_some, addr_add]
      rw [← hl]
      refine .lst t _ b (off + lo * t.size) (cap - lo) cells e fr hb (by omega) (by omega) ?_ fun i x hx j p hp u hu => ?_
      · rw [hl]
        have : (hi - lo) * t.size + lo * t.size ≤ l.length * t.size := by rw [← Nat.add_mul]; exact Nat.mul_le_mul_right _ (by omega)
        omega
      · have hx' : l[lo + i]? = some x := by
          rw [List.getElem?_drop, List.getElem?_take] at hx
          split at hx
          · exact hx
          · cases hx
        refine h (lo + i) x hx' j p hp u ?_
        rw [Nat.add_mul, show off + (lo * t.size + i * t.size) + j = off + lo * t.size + i * t.size + j from by omega]; exact hu
theorem own_form {w : World} {B : Nat} {e : TypeId} {size : Nat} {v : Value} {n : Nat} {xs : List Value} (h : w.ownsRow B e size v n xs) : ∃ a c, v = .slice a n c ∧ n ≤ c ∧ (a = none → c = 0) := by
  rcases h.2 with ⟨rfl, rfl⟩ | ⟨g, cap, cur, rfl, _, _, h, _⟩
  · exact ⟨_, _, rfl, Nat.le_refl _, fun _ => rfl⟩
  · exact ⟨_, _, rfl, h, fun h => by cases h⟩

section
variable {Γ : Ctx} {P : Program} {st : ST} {V : Vn} {a : Act} {w : World}
theorem pickP_sound {H : Mem} {b : Bool} {x y : Operand} {p q r : PD} {u v : Value} (h : pickP b x y p q = some r) (h1 : b = true → PR H p u) (h2 : b = false → PR H q v) : PR H r (bif b then u else v) := by
  unfold pickP at h
  split at h
  · rename_i p q
    have go : r = .bool (bif b then p else q) := by
      split at h <;> simp only [Option.some.injEq] at h <;> subst h <;> cases b <;> cases p <;> cases q <;> rfl
    subst go
    cases b
    · exact h2 rfl
    · exact h1 rfl
  · rename_i k n k' m
    cases hk : (k == k')
    · rw [hk] at h; simp at h
    · rw [hk] at h
      simp only [cond_true, Option.some.injEq] at h
      simp only [beq_iff_eq] at hk
      subst hk; subst h
      cases b
      · exact h2 rfl
      · exact h1 rfl
  · simp only [Option.some.injEq] at h; subst h
    cases b
    · exact h2 rfl
    · exact h1 rfl
  · split at h
    · rename_i e
      simp only [Option.some.injEq] at h
      subst e; subst h
      cases b
      · exact h2 rfl
      · exact h1 rfl
    · simp at h
  · simp at h
theorem pickL_sound {b : Bool} : ∀ {l m r : List SC} {us vs : List Value}, pickL b l m = some r → (b = true → All2 (SC.R V) l us) → (b = false → All2 (SC.R V) m vs) → All2 (SC.R V) r (bif b then us else vs)
  | [], [], r, us, vs, h, h1, h2 => by
    simp [pickL] at h; subst h
    cases b
    · exact h2 rfl
    · exact h1 rfl
  | .pd p :: l, .pd q :: m, r, us, vs, h, h1, h2 => by
    simp only [pickL] at h
    split at h
    · rename_i r' k h3 h4
      simp only [Option.some.injEq] at h; subst h
      cases b
      · cases h2 rfl with | cons g1 g2 => exact .cons (pickP_sound (u := undef) h3 (by simp) (fun _ => g1)) (pickL_sound (us := []) h4 (by simp) (fun _ => g2))
      · cases h1 rfl with | cons g1 g2 => exact .cons (pickP_sound (v := undef) h3 (fun _ => g1) (by simp)) (pickL_sound (vs := []) h4 (fun _ => g2) (by simp))
    · simp at h
theorem pickX_sound {b : Bool} {x y : Operand} {va vb r : SX} {u v : Value} (h : pickX b x y va vb = some r) (h1 : b = true → va.R V u) (h2 : b = false → vb.R V v) : r.R V (bif b then u else v) := by
  unfold pickX at h
  split at h
  · simp only [Option.map_eq_some_iff] at h
    obtain ⟨p, hp, rfl⟩ := h
    exact pickP_sound hp h1 h2
  · simp only [Option.map_eq_some_iff] at h
    obtain ⟨k, hp, rfl⟩ := h
    cases b
    · obtain ⟨us, rfl, g⟩ := h2 rfl
      exact ⟨us, rfl, pickL_sound (us := []) hp (by simp) (fun _ => g)⟩
    · obtain ⟨us, rfl, g⟩ := h1 rfl
      exact ⟨us, rfl, pickL_sound (vs := []) hp (fun _ => g) (by simp)⟩
  · simp at h
theorem armOf_sound (r : Rel Γ st V a w) {g : Option (Nat × Bool)} (hg : GuardOn a g) {s : Nat} {want : Bool} {x : Operand} {v : SX} (h : armOf st g s want x = some v) (hs : a.tmps.getD s undef = .bool want) : v.R V (a.eval x) := by
  unfold armOf at h
  split at h
  · rename_i v' he
    simp only [Option.some.injEq] at h; subst h
    exact evalO_sound r (g := some (s, want)) hs he
  · exact evalO_sound r hg h
theorem intOf_sound (r : Rel Γ st V a w) {g : Option (Nat × Bool)} (hg : GuardOn a g) {x : Operand} {n : Int} (h : intOf? (evalO st g x) = some n) : ∃ k, a.eval x = .int k n := by
  unfold intOf? at h
  split at h
  · rename_i k m heq
    simp only [Option.some.injEq] at h
    subst h
    have := evalO_sound r hg heq
    generalize a.eval x = u at this ⊢
    cases this
    exact ⟨k, rfl⟩
  · simp at h
theorem rcList_sound (r : Rel Γ st V a w) {g : Option (Nat × Bool)} (hg : GuardOn a g) : ∀ (l : List Operand) (cs : List RC), rcList (l.map (evalO st g)) = some cs → All2 (RC.R V) cs (l.map a.eval)
  | [], cs, h => by simp [rcList] at h; subst h; exact .nil
  | x :: l, cs, h => by
    simp only [List.map_cons, rcList] at h
    split at h
    · rename_i c cs' h1 h2
      simp only [Option.some.injEq] at h; subst h
      simp only [Option.bind_eq_some_iff] at h1
      obtain ⟨sx, h3, h4⟩ := h1
      refine .cons ?_ (rcList_sound r hg l cs' h2)
      have h5 := evalO_sound r hg h3
      unfold rcOf at h4
      split at h4
      · simp only [Option.some.injEq] at h4; subst h4; exact h5
      · simp only [Option.some.injEq] at h4; subst h4; exact h5
      · simp at h4
    · simp at h
theorem toV_PR {H : Mem} {p : PD} {v u : Value} (h : p.toV = some v) (hp : PR H p u) : u = v := by
  cases hp <;> simp [PD.toV] at h <;> exact h
theorem bnd_sound (r : Rel Γ st V a w) {g : Option (Nat × Bool)} (hg : GuardOn a g) {x : Option Operand} {b : Option Int} (h : bnd st g x = some b) : (b = none ∧ x.map a.eval = none) ∨ ∃ n k, b = some n ∧ x.map a.eval = some (.int k n) := by
  cases x with
  | none => simp [bnd] at h; exact .inl ⟨h.symm, rfl⟩
  | some x =>
    simp only [bnd, Option.map_eq_some_iff] at h
    obtain ⟨n, h1, rfl⟩ := h
    obtain ⟨k, h2⟩ := intOf_sound r hg h1
    exact .inr ⟨n, k, rfl, by simp [h2]⟩
theorem cut_sound {α : Type} (r : Rel Γ st V a w) {g : Option (Nat × Bool)} (hg : GuardOn a g) {lo hi : Option Operand} {bl bh : Option Int} (h1 : bnd st g lo = some bl) (h2 : bnd st g hi = some bh) (l : List α) (hp : Holds (cutL l bl bh).1) :
    ∃ x y, LoOk (lo.map a.eval) y x ∧ (∀ cap, l.length ≤ cap → HiOk (hi.map a.eval) l.length cap y) ∧ x ≤ y ∧ y ≤ l.length ∧ (cutL l bl bh).2 = (l.take y).drop x := by
  rcases bnd_sound r hg h1 with ⟨rfl, e1⟩ | ⟨n, k, rfl, e1⟩ <;> rcases bnd_sound r hg h2 with ⟨rfl, e2⟩ | ⟨m, k', rfl, e2⟩ <;> simp only [cutL, Holds] at hp ⊢ <;> rw [e1, e2]
  · exact ⟨0, l.length, .inl ⟨rfl, rfl⟩, fun _ _ => .inl ⟨rfl, rfl⟩, by omega, by omega, by simp⟩
  · exact ⟨0, m.toNat, .inl ⟨rfl, rfl⟩, fun cap hc => .inr ⟨_, _, rfl, hp.1, by omega, rfl⟩, by omega, by omega, by simp⟩
  · exact ⟨n.toNat, l.length, .inr ⟨_, _, rfl, hp.1, hp.2, rfl⟩, fun _ _ => .inl ⟨rfl, rfl⟩, by omega, by omega, by simp⟩
  · exact ⟨n.toNat, m.toNat, .inr ⟨_, _, rfl, hp.1, by omega, rfl⟩, fun cap hc => .inr ⟨_, _, rfl, by omega, by omega, rfl⟩, by omega, by omega, rfl⟩
theorem fns_le {l : List (Nat × List PD)} {cells : Array Value} {uss : Nat → List Value} (hc : ∀ (i : Nat) (q : Nat × List PD), l[i]? = some q → cells[i]? = some (.func (.func q.1) #[] (uss i).toArray) ∧ (uss i).length = q.2.length) : l.length ≤ cells.size := by
  by_cases h : l.length = 0
  · omega
  · have hi : l.length - 1 < l.length := by omega
    have := (Array.getElem?_eq_some_iff.1 (hc _ _ (List.getElem?_eq_getElem hi)).1).1
    omega
theorem rowAt_sound (r : Rel Γ st V a w) {sx : SX} {v : Value} (hv : sx.R V v) {p : Option Prop} {cs : List SC} {off : Nat} (h : rowAt st sx = some (p, cs, off)) (hp : Holds p) :
    ∃ b o0 arr e fr us, v = .pointer (some ⟨b, o0 + off, none⟩) ∧ w.heap[b]? = some (.cells arr e fr) ∧ (∀ (j : Nat) u, us[j]? = some u → arr[o0 + j]? = some u) ∧ All2 (SC.R V) cs us := by
  unfold rowAt at h
  split at h
  · rename_i i off'
    split at h
    · rename_i cs' e hck
      simp only [Option.some.injEq, Prod.mk.injEq] at h
      obtain ⟨rfl, rfl, rfl⟩ := h
      obtain ⟨us, h1, h2⟩ := r.wok.own i _ hck
      exact ⟨V.σ i, 0, _, _, _, us, by rw [Nat.zero_add]; exact hv, h1, fun j u hu => by simpa using hu, h2⟩
    · simp at h
  · rename_i t x off'
    simp only [Option.some.injEq, Prod.mk.injEq] at h
    obtain ⟨rfl, rfl, rfl⟩ := h
    cases hv with
    | ref _ _ _ b o0 cells e fr hb hs hc =>
      refine ⟨b, o0, cells, e, fr, (cells.toList.drop o0).take t.size, rfl, r.wok.imm _ _ hb, ?_, ?_⟩
      · intro j u hu
        rw [List.getElem?_take] at hu
        split at hu
        · rw [List.getElem?_drop] at hu; simpa using hu
        · cases hu
      · refine All2.of (by simp [t.enc_length]; omega) fun i p u hp hu => ?_
        simp only [List.getElem?_map, Option.map_eq_some_iff] at hp
        obtain ⟨p', hp', rfl⟩ := hp
        refine hc i p' hp' u ?_
        rw [List.getElem?_take] at hu
        split at hu
        · rw [List.getElem?_drop] at hu; simpa using hu
        · cases hu
  · rename_i i j sz off'
    split at h
    · rename_i e t l hck
      cases hb : Nat.beq sz t.size
      · rw [hb] at h; simp at h
      · rw [hb] at h
        simp only [cond_true, Option.some.injEq, Prod.mk.injEq] at h
        obtain ⟨rfl, rfl, rfl⟩ := h
        have hsz := Nat.eq_of_beq_eq_true hb
        simp only [Holds] at hp
        obtain ⟨xs, h1, h2, h3⟩ := r.wok.own i _ hck
        rcases h1.2 with ⟨_, h4⟩ | ⟨g, cap, cur, q1, q2, q3, q4, q5, q6, q7⟩
        · omega
        · have hs : V.σ i = g := h3 g (by rw [q1]; rfl)
          have hjl : j * t.size + t.size ≤ l.length * t.size := by rw [← Nat.succ_mul]; exact Nat.mul_le_mul_right _ hp
          refine ⟨g, j * t.size, cur, e, (0, 0), (xs.drop (j * t.size)).take t.size, by rw [← hs, ← hsz]; exact hv, q3, ?_, ?_⟩
          · intro k u hu
            rw [List.getElem?_take] at hu
            split at hu
            · rw [List.getElem?_drop, ← q7, List.getElem?_take] at hu
              split at hu
              · simpa using hu
              · cases hu
            · cases hu
          · refine All2.of (by simp [t.enc_length, h1.1]; omega) fun k p u hp' hu => ?_
            simp only [List.getElem?_map, Option.map_eq_some_iff] at hp'
            obtain ⟨p', hp', rfl⟩ := hp'
            have h5 := flat_get (ETy.getElem?_get hp) hp'
            obtain ⟨u', h6, h7⟩ := h2.get h5
            rw [List.getElem?_take] at hu
            split at hu
            · rw [List.getElem?_drop] at hu
              rw [hu] at h6
              simp only [Option.some.injEq] at h6
              subst h6; exact h7
            · cases hu
    · simp at h
  · rename_i l k
    simp only [Option.some.injEq, Prod.mk.injEq] at h
    obtain ⟨rfl, rfl, rfl⟩ := h
    cases hv with
    | fnAt _ _ b cells e fr uss hb hc hh =>
      have hlen : l.length ≤ cells.size := fns_le hc
      refine ⟨b, 0, cells, e, fr, cells.toList.take l.length, by rw [Nat.zero_add], r.wok.imm _ _ hb, ?_, ?_⟩
      · intro j u hu
        rw [List.getElem?_take] at hu
        split at hu
        · simpa using hu
        · cases hu
      · refine All2.of (by simp; omega) fun i s u hs hu => ?_
        simp only [List.getElem?_map, Option.map_eq_some_iff] at hs
        obtain ⟨q, hq, rfl⟩ := hs
        rw [List.getElem?_take] at hu
        split at hu
        · have h1 := (hc i q hq).1
          have h2 : cells[i]? = some u := by simpa using hu
          rw [h1] at h2
          simp only [Option.some.injEq] at h2
          exact ⟨[], uss i, h2.symm, .nil, by rw [All2.map_left]; exact All2.of (hc i q hq).2.symm fun j p w hp hw => hh i q hq j p hp w hw⟩
        · cases hu
  · simp at h
end
end Go.Ev

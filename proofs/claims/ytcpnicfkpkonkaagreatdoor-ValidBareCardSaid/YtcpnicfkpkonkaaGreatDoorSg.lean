/- No text twice: the program's word and the document's are alike (plain). Conditions: none. Events of transitions: the program's word and the document's are alike (plain). Conditions: states' names differ. A valid chart: its questions one by one; without one of its transitions; its names are found (plain). Conditions: none. -/
import Derived.Test.YtcpnicfkpkonkaaGreatDoorTm
import Derived.Test.YtcpnicfkpkonkaaGreatDoorTj
import Derived.Test.YtcpnicfkpkonkaaGreatDoorTq
namespace Go.Proofs.YtcpnicfkpkonkaaGreatDoor
open Go Go.Ev
set_option maxRecDepth 100000
def tw1 (l : List Str) (i : Nat) : Bool := (l.take i).any fun y => ETy.get .str l i == y
def twGo (l : List Str) : Nat → Nat → Bool
  | 0, _ => false
  | n + 1, i => tw1 l i || twGo l n (i + 1)
def rtwiceM (l : List Str) : Bool := twGo l l.length 0
theorem tw_go (l : List Str) : ∀ (n i : Nat), l.length - i = n → (twGo l n i = true ↔ ∃ k, i ≤ k ∧ k < l.length ∧ tw1 l k = true)
  | 0, i, h => by rw [twGo]; exact ⟨fun h => (by cases h), fun ⟨k, h1, h2, _⟩ => by omega⟩
  | n + 1, i, h => by
    rw [twGo, Bool.or_eq_true, tw_go l n (i + 1) (by omega)]
    constructor
    · rintro (h1 | ⟨k, h1, h2, h3⟩)
      · exact ⟨i, Nat.le_refl _, by omega, h1⟩
      · exact ⟨k, by omega, h2, h3⟩
    · rintro ⟨k, h1, h2, h3⟩
      by_cases hk : k = i
      · subst hk; exact .inl h3
      · exact .inr ⟨k, by omega, h2, h3⟩
theorem twice_iff (l : List Str) : rtwiceM l = false ↔ l.Nodup := by
  unfold rtwiceM
  rw [← Bool.not_eq_true, tw_go l l.length 0 (by omega), List.nodup_iff_pairwise_ne, List.pairwise_iff_getElem]
  constructor
  · intro h i j hi hj hij e
    refine h ⟨j, Nat.zero_le _, hj, ?_⟩
    unfold tw1
    rw [List.any_eq_true]
    refine ⟨l[i], ?_, ?_⟩
    · rw [List.mem_take_iff_getElem]; exact ⟨i, by omega, rfl⟩
    · rw [ETy.get_eq (t := .str) (List.getElem?_eq_getElem hj), e]; exact beq_self_eq_true _
  · rintro h ⟨k, _, h2, h3⟩
    unfold tw1 at h3
    rw [List.any_eq_true] at h3
    obtain ⟨y, hy, he⟩ := h3
    obtain ⟨i, hi, rfl⟩ := List.mem_take_iff_getElem.1 hy
    rw [ETy.get_eq (t := .str) (List.getElem?_eq_getElem h2)] at he
    exact h i k (by omega) h2 (by omega) (eq_of_beq he).symm
theorem sorted_S (l : List Str) : (sortS l).Pairwise fun x y => x ≤ y := by
  have h := List.pairwise_mergeSort (le := fun x y : Str => decide (x ≤ y)) (fun a b c h1 h2 => decide_eq_true (List.le_trans (of_decide_eq_true h1) (of_decide_eq_true h2))) (fun a b => by
    rcases List.le_total a b with h | h
    · rw [decide_eq_true h]; rfl
    · rw [decide_eq_true h, Bool.or_true]) l
  exact h.imp fun h => of_decide_eq_true h
theorem comp_len (s : List Str) : (compS s).length = s.length ↔ ∀ j, j < s.length → Lib.keeps s.toArray j = true := by
  unfold compS Lib.compact Lib.compactUpTo
  rw [List.length_map]
  constructor
  · intro h j hj
    have h2 : ((List.range s.length).filter (Lib.keeps s.toArray)).length = (List.range s.length).length := by rw [h, List.length_range]
    exact (List.length_filter_eq_length_iff.1 h2) j (List.mem_range.2 hj)
  · intro h
    rw [List.filter_eq_self.2 fun j hj => h j (List.mem_range.1 hj), List.length_range]
theorem keeps_iff {s : List Str} (hs : s.Pairwise fun x y => x ≤ y) : (∀ j, j < s.length → Lib.keeps s.toArray j = true) ↔ s.Nodup := by
  rw [List.nodup_iff_pairwise_ne, List.pairwise_iff_getElem]
  rw [List.pairwise_iff_getElem] at hs
  constructor
  · intro h i j hi hj hij e
    have h1 := h j hj
    unfold Lib.keeps at h1
    have h2 := of_decide_eq_true h1
    rcases h2 with h2 | h2
    · omega
    · refine h2 ?_
      rw [getElem!_pos s.toArray j (by simpa using hj), getElem!_pos s.toArray (j - 1) (by simp; omega)]
      simp only [List.getElem_toArray]
      have h3 : s[j - 1] ≤ s[j] := hs (j - 1) j (by omega) hj (by omega)
      have h4 : s[i] ≤ s[j - 1] := by
        by_cases h5 : i = j - 1
        · subst h5; exact List.le_refl _
        · exact hs i (j - 1) hi (by omega) (by omega)
      exact List.le_antisymm (e ▸ h4) h3
  · intro h j hj
    unfold Lib.keeps
    refine decide_eq_true ?_
    by_cases h0 : j = 0
    · exact .inl h0
    · refine .inr ?_
      rw [getElem!_pos s.toArray j (by simpa using hj), getElem!_pos s.toArray (j - 1) (by simp; omega)]
      simp only [List.getElem_toArray]
      exact fun e => h (j - 1) j (by omega) hj (by omega) e.symm
theorem once_iff (l : List Str) : onceM l = true ↔ l.Nodup := by
  unfold onceM
  have h : (((compS (sortS l)).length : Int) == ((sortS l).length : Int)) = true ↔ (compS (sortS l)).length = (sortS l).length := by rw [beq_iff_eq]; omega
  rw [h, comp_len, keeps_iff (sorted_S l)]
  exact (List.mergeSort_perm l _).nodup_iff
theorem once_eq (l : List Str) : onceM l = !rtwiceM l := by
  rw [Bool.eq_iff_iff, once_iff, ← twice_iff]; simp
theorem done_iff (s n : Str) : (s == doneT ++ n) = true ↔ hasP s doneT = true ∧ cutP s doneT = n := by
  have e5 : strLen doneT = 5 := rfl
  have el : strLen s = (s.length : Int) := rfl
  rw [beq_iff_eq]
  constructor
  · rintro rfl
    have h : hasP (doneT ++ n) doneT = true := by
      unfold hasP
      rw [Bool.and_eq_true]
      refine ⟨decide_eq_true ?_, ?_⟩
      · rw [el, e5, List.length_append]; show _ ≥ (5 : Int); have : doneT.length = 5 := rfl
        omega
      · rw [e5]; exact beq_iff_eq.2 (List.take_left' rfl)
    refine ⟨h, ?_⟩
    unfold cutP
    rw [h, cond_true, e5]; exact List.drop_left' rfl
  · rintro ⟨h, hn⟩
    unfold cutP at hn
    rw [h, cond_true, e5] at hn
    unfold hasP at h
    rw [Bool.and_eq_true, e5] at h
    have h2 : s.take 5 = doneT := eq_of_beq h.2
    rw [← hn]
    calc s = s.take 5 ++ s.drop 5 := (List.take_append_drop 5 s).symm
      _ = _ := by rw [h2]; rfl
def rknownM (l : List Ev.Stat) (s : Str) : Bool := l.any fun x : Ev.Stat => (x.kind == 2 || x.kind == 3) && s == doneT ++ x.name
def baseE (c : Chart) (s : Str) : Bool := s == [] || s == errorT || c.events.any fun x => s == x
theorem place_find (l : List Ev.Stat) (n : Str) : (placeM l n = -1 ∧ ∀ x ∈ l, x.name ≠ n) ∨ ∃ k : Nat, placeM l n = (k : Int) ∧ k < l.length ∧ (ETy.get .stat l k).name = n := by
  unfold placeM
  rcases firstAt_find (fun s : Ev.Stat => s.name == n) l 0 with ⟨h1, h2⟩ | ⟨k, x, h1, h2, h3⟩
  · refine .inl ⟨h1, fun x hx e => ?_⟩
    have := List.find?_eq_none.1 h2 x hx
    simp [e] at this
  · refine .inr ⟨k, by rw [Nat.zero_add] at h1; exact h1, (List.getElem?_eq_some_iff.1 h2).1, ?_⟩
    rw [ETy.get_eq (t := .stat) h2]
    have := List.find?_some h3
    exact eq_of_beq this
theorem name_one {l : List Ev.Stat} (hn : (l.map fun s : Ev.Stat => s.name).Nodup) {i j : Nat} (hi : i < l.length) (hj : j < l.length) (h : (ETy.get .stat l i).name = (ETy.get .stat l j).name) : i = j := by
  rw [ETy.get_eq (t := .stat) (List.getElem?_eq_getElem hi), ETy.get_eq (t := .stat) (List.getElem?_eq_getElem hj)] at h
  rw [List.nodup_iff_pairwise_ne, List.pairwise_iff_getElem] at hn
  rcases Nat.lt_trichotomy i j with h1 | h1 | h1
  · exact absurd (by rw [List.getElem_map, List.getElem_map]; exact h) (hn i j (by simpa using hi) (by simpa using hj) h1)
  · exact h1
  · exact absurd (by rw [List.getElem_map, List.getElem_map]; exact h.symm) (hn j i (by simpa using hj) (by simpa using hi) h1)
theorem event_eq {c : Chart} (hn : (c.states.map fun s : Ev.Stat => s.name).Nodup) (s : Str) : eventE c s = (baseE c s || rknownM c.states s) := by
  unfold eventE
  show (if baseE c s = true then true else _) = _
  cases baseE c s
  · rw [if_neg (by decide), Bool.false_or]
    unfold rknownM
    rw [Bool.eq_iff_iff, List.any_eq_true]
    constructor
    · intro h
      simp only [Bool.and_eq_true, decide_eq_true_eq] at h
      obtain ⟨⟨h1, h2⟩, h3⟩ := h
      rcases place_find c.states (cutP s doneT) with ⟨e, _⟩ | ⟨k, e, hk, hx⟩
      · rw [e] at h2; exact absurd h2 (by decide)
      · rw [e, Int.toNat_natCast] at h3
        refine ⟨ETy.get .stat c.states k, ?_, ?_⟩
        · rw [ETy.get_eq (t := .stat) (List.getElem?_eq_getElem hk)]; exact List.getElem_mem hk
        · rw [Bool.and_eq_true]
          exact ⟨h3, (done_iff s _).2 ⟨h1, hx.symm⟩⟩
    · rintro ⟨x, hx, h⟩
      rw [Bool.and_eq_true] at h
      obtain ⟨h1, h2⟩ := (done_iff s _).1 h.2
      obtain ⟨j, hj, rfl⟩ := List.mem_iff_getElem.1 hx
      rcases place_find c.states (cutP s doneT) with ⟨e, hno⟩ | ⟨k, e, hk, hy⟩
      · exact absurd h2.symm (hno _ (List.getElem_mem hj))
      · have ej : ETy.get .stat c.states j = c.states[j] := ETy.get_eq (t := .stat) (List.getElem?_eq_getElem hj)
        have : k = j := name_one hn hk hj (by rw [hy, ej]; exact h2)
        subst this
        rw [e, Int.toNat_natCast, h1, decide_eq_true (show (k : Int) ≥ 0 by omega), ej]
        exact h.1
  · rfl
theorem must_zero {b : Bool} {e : Int} (he : e ≠ 0) : mustM b e = 0 ↔ b = true := by
  unfold mustM
  cases b
  · rw [if_neg (by decide)]; exact ⟨fun h => absurd h he, fun h => (by cases h)⟩
  · rw [if_pos rfl]; exact ⟨fun _ => rfl, fun _ => rfl⟩
theorem and_zero {e r : Int} : andE e r = 0 ↔ e = 0 ∧ r = 0 := by
  unfold andE
  by_cases h : e = 0
  · subst h
    rw [if_neg (by decide)]; exact ⟨fun h => ⟨rfl, h⟩, fun h => h.2⟩
  · rw [if_pos (by simpa using h)]; exact ⟨fun h2 => absurd h2 h, fun h2 => absurd h2.1 h⟩
theorem first_zero (f : Nat → Int) : ∀ (m k : Nat), firstE f k m = 0 ↔ ∀ j, k ≤ j → j < k + m → f j = 0
  | 0, k => by rw [firstE]; exact ⟨fun _ j h1 h2 => by omega, fun _ => rfl⟩
  | m + 1, k => by
    rw [firstE]
    by_cases h : f k = 0
    · rw [h, if_neg (by decide), first_zero f m (k + 1)]
      refine ⟨fun h2 j h3 h4 => ?_, fun h2 j h3 h4 => h2 j (by omega) (by omega)⟩
      by_cases hj : j = k
      · subst hj; exact h
      · exact h2 j (by omega) (by omega)
    · rw [if_pos (by simpa using h)]
      exact ⟨fun h2 => absurd h2 h, fun h2 => absurd (h2 k (Nat.le_refl _) (by omega)) h⟩
structure Valid (c : Chart) : Prop where
  few : longM c = true
  names : ∀ s ∈ c.name :: c.events ++ (c.vars.map fun v : Var => v.name) ++ c.states.map fun s : Ev.Stat => s.name, nameM s = true
  events : c.events.Nodup
  vars : (c.vars.map fun v : Var => v.name).Nodup
  states : (c.states.map fun s : Ev.Stat => s.name).Nodup
  tree : rightT c.states = true
  inits : ∀ k, k < c.states.length → initE c.states k = 0
  kinds : ∀ k, k < c.vars.length → varE (ETy.get .var c.vars k) = 0
  blocks : ∀ k, k < c.states.length → blocksE c (ETy.get .stat c.states k) = 0
  trans : ∀ k, k < c.trans.length → transE c k (realM c.states) (ETy.get .tran c.trans k) = 0
theorem valid_iff (c : Chart) : checkE c = 0 ↔ Valid c := by
  unfold checkE q0E q1E q2E q3E q4E q5E q6E q7E
  simp only [and_zero, must_zero (show (4 : Int) ≠ 0 by decide), must_zero (show (2 : Int) ≠ 0 by decide), must_zero (show (3 : Int) ≠ 0 by decide), must_zero (show (9 : Int) ≠ 0 by decide), first_zero]
  have hn : (!(allN c (c.vars.map fun v : Var => v.name) (c.states.map fun s : Ev.Stat => s.name)).any fun s : Str => !nameM s) = true ↔ ∀ s ∈ c.name :: c.events ++ (c.vars.map fun v : Var => v.name) ++ c.states.map fun s : Ev.Stat => s.name, nameM s = true := by
    unfold allN
    rw [flatS_eq, Bool.not_eq_true', ← Bool.not_eq_true, List.any_eq_true]
    simp only [List.flatten_cons, List.flatten_nil, List.append_nil, List.singleton_append, List.append_assoc, List.cons_append]
    constructor
    · intro h s hs
      cases hb : nameM s
      · exact absurd ⟨s, hs, by rw [hb]; rfl⟩ h
      · rfl
    · rintro h ⟨s, hs, hb⟩
      rw [h s hs] at hb; cases hb
  have ht : twiceM c (c.vars.map fun v : Var => v.name) (c.states.map fun s : Ev.Stat => s.name) = true ↔ c.events.Nodup ∧ (c.vars.map fun v : Var => v.name).Nodup ∧ (c.states.map fun s : Ev.Stat => s.name).Nodup := by
    unfold twiceM
    rw [Bool.and_eq_true, Bool.and_eq_true, once_iff, once_iff, once_iff, and_assoc]
  rw [hn, ht]
  constructor
  · rintro ⟨h0, h1, ⟨h2, h3, h4⟩, h5, h6, h7, h8, h9, _⟩
    exact ⟨h0, h1, h2, h3, h4, h5, fun k hk => h6 k (by omega) (by omega), fun k hk => h7 k (by omega) (by omega), fun k hk => h8 k (by omega) (by omega), fun k hk => h9 k (by omega) (by omega)⟩
  · intro v
    exact ⟨v.few, v.names, ⟨v.events, v.vars, v.states⟩, v.tree, fun k _ hk => v.inits k (by omega), fun k _ hk => v.kinds k (by omega), fun k _ hk => v.blocks k (by omega), fun k _ hk => v.trans k (by omega), trivial⟩
/-! ### without one of its transitions -/
theorem get_app {l r : List Tran} {j : Nat} : (j < l.length → ETy.get .tran (l ++ r) j = ETy.get .tran l j) ∧ (l.length ≤ j → ETy.get .tran (l ++ r) j = ETy.get .tran r (j - l.length)) := by
  unfold ETy.get
  rw [List.getD_eq_getElem?_getD, List.getD_eq_getElem?_getD, List.getD_eq_getElem?_getD]
  exact ⟨fun h => by rw [List.getElem?_append_left h], fun h => by rw [List.getElem?_append_right h]⟩
theorem get_take {l : List Tran} {j k : Nat} (h : j < k) : ETy.get .tran (l.take k) j = ETy.get .tran l j := by
  unfold ETy.get
  rw [List.getD_eq_getElem?_getD, List.getD_eq_getElem?_getD, List.getElem?_take, if_pos h]
theorem get_drop {l : List Tran} {j k : Nat} : ETy.get .tran (l.drop k) j = ETy.get .tran l (k + j) := by
  unfold ETy.get
  rw [List.getD_eq_getElem?_getD, List.getD_eq_getElem?_getD, List.getElem?_drop]
theorem fewer_get {l : List Tran} {k : Nat} (hk : k < l.length) (j : Nat) : ETy.get .tran (l.take k ++ l.drop (k + 1)) j = ETy.get .tran l (if j < k then j else j + 1) := by
  have hl : (l.take k).length = k := by rw [List.length_take]; omega
  by_cases h : j < k
  · rw [if_pos h, get_app.1 (by rw [hl]; exact h), get_take h]
  · rw [if_neg h, get_app.2 (by rw [hl]; omega), hl, get_drop, show k + 1 + (j - k) = j + 1 by omega]
theorem badsrc_iff (c : Chart) (i : Nat) (hi : i < c.trans.length) (hl : c.trans.length ≤ 1000) (t : Tran) : badsrcE c i t = false ↔ (0 ≤ t.src ∧ t.src < (c.states.length : Int) ∧ (0 < i → (ETy.get .tran c.trans (i - 1)).src ≤ t.src) ∧ (ETy.get .stat c.states t.src.toNat).kind ≤ 3) := by
  unfold badsrcE
  have hw : (IntKind.wrap .i64 ((i : Int) - 1)).toNat = i - 1 := by rw [wrapI (by omega) (by omega)]; omega
  rw [hw]
  generalize (ETy.get .tran c.trans (i - 1)).src = p
  generalize (ETy.get .stat c.states t.src.toNat).kind = q
  rw [← Bool.not_eq_true]
  simp only [Bool.or_eq_true, Bool.and_eq_true, decide_eq_true_eq]
  omega
theorem trans_zero (c : Chart) (i : Nat) (real : List Str) (t : Tran) : transE c i real t = 0 ↔ badsrcE c i t = false ∧ eventE c t.event = true ∧ (t.guard = [] ∨ ((kindsM t.guard c.vars real).2 = 0 ∧ (kindsM t.guard c.vars real).1 = 2)) ∧ afterE c t = 0 := by
  unfold transE
  cases hb : badsrcE c i t
  · rw [if_neg (by decide)]
    cases he : eventE c t.event
    · rw [if_pos (by decide)]; exact ⟨fun h => absurd h (by decide), fun h => (by cases h.2.1)⟩
    · rw [if_neg (by decide)]
      by_cases hg : t.guard = []
      · rw [hg, if_neg (by decide)]
        exact ⟨fun h => ⟨rfl, rfl, .inl rfl, h⟩, fun h => h.2.2.2⟩
      · have hp : 0 < t.guard.length := List.length_pos_iff.2 hg
        rw [if_pos (decide_eq_true (by omega))]
        by_cases h2 : (kindsM t.guard c.vars real).2 = 0
        · rw [if_neg (by rw [h2]; decide)]
          by_cases h1 : (kindsM t.guard c.vars real).1 = 2
          · rw [if_neg (by rw [h1]; decide)]
            exact ⟨fun h => ⟨rfl, rfl, .inr ⟨h2, h1⟩, h⟩, fun h => h.2.2.2⟩
          · rw [if_pos (by simpa using h1)]
            exact ⟨fun h => absurd h (by decide), fun h => (h.2.2.1.elim hg fun h => h1 h.2).elim⟩
        · rw [if_pos (by simpa using h2)]
          exact ⟨fun h => absurd h h2, fun h => (h.2.2.1.elim hg fun h => h2 h.1).elim⟩
  · rw [if_pos rfl]; exact ⟨fun h => absurd h (by decide), fun h => (by cases h.1)⟩
theorem long_iff (c : Chart) : longM c = true ↔ c.events.length ≤ 12 ∧ c.vars.length ≤ 8 ∧ c.states.length ≤ 40 ∧ c.trans.length ≤ 48 := by
  unfold longM
  simp only [Bool.and_eq_true, decide_eq_true_eq]
  omega
theorem valid_fewer {c : Chart} (v : Valid c) {k : Nat} (hk : k < c.trans.length) : Valid { c with trans := c.trans.take k ++ c.trans.drop (k + 1) } := by
  have h0 := (long_iff c).1 v.few
  have hl : (c.trans.take k ++ c.trans.drop (k + 1)).length = c.trans.length - 1 := by
    rw [List.length_append, List.length_take, List.length_drop]; omega
  refine ⟨(long_iff _).2 ⟨h0.1, h0.2.1, h0.2.2.1, by show (c.trans.take k ++ c.trans.drop (k + 1)).length ≤ 48; omega⟩, v.names, v.events, v.vars, v.states, v.tree, v.inits, v.kinds, v.blocks, fun j hj => ?_⟩
  have hj' : j < (c.trans.take k ++ c.trans.drop (k + 1)).length := hj
  show transE _ j _ (ETy.get .tran (c.trans.take k ++ c.trans.drop (k + 1)) j) = 0
  rw [fewer_get hk]
  have hsrc : ∀ i, i + 1 < c.trans.length → (ETy.get .tran c.trans i).src ≤ (ETy.get .tran c.trans (i + 1)).src := fun i hi => by
    have := ((trans_zero c (i + 1) _ _).1 (v.trans (i + 1) hi)).1
    have := ((badsrc_iff c (i + 1) hi (by omega) _).1 this).2.2.1 (by omega)
    rwa [Nat.add_sub_cancel] at this
  generalize hq : (if j < k then j else j + 1) = q
  have hql : q < c.trans.length := by split at hq <;> omega
  have hz := (trans_zero c q _ _).1 (v.trans q hql)
  have hb := (badsrc_iff c q hql (by omega) _).1 hz.1
  refine (trans_zero _ j _ _).2 ⟨(badsrc_iff _ j hj (by show (c.trans.take k ++ c.trans.drop (k + 1)).length ≤ 1000; omega) _).2 ⟨hb.1, hb.2.1, fun hp => ?_, hb.2.2.2⟩, hz.2.1, hz.2.2.1, hz.2.2.2⟩
  show (ETy.get .tran (c.trans.take k ++ c.trans.drop (k + 1)) (j - 1)).src ≤ _
  rw [fewer_get hk]
  by_cases h1 : j < k
  · rw [if_pos h1] at hq; subst hq
    rw [if_pos (by omega)]
    exact hb.2.2.1 hp
  · rw [if_neg h1] at hq; subst hq
    by_cases h2 : j - 1 < k
    · rw [if_pos h2]
      have a := hsrc (j - 1) (by omega)
      have b := hsrc j (by omega)
      rw [show j - 1 + 1 = j by omega] at a
      omega
    · rw [if_neg h2, show j - 1 + 1 = j by omega]
      exact hsrc j hql
/-! ### its names are found -/
theorem place_own {c : Chart} (v : Valid c) {i : Nat} (hi : i < c.states.length) : placeM c.states (ETy.get .stat c.states i).name = (i : Int) := by
  rcases place_find c.states (ETy.get .stat c.states i).name with ⟨_, h⟩ | ⟨k, e, hk, hx⟩
  · exact absurd rfl (h _ (by rw [ETy.get_eq (t := .stat) (List.getElem?_eq_getElem hi)]; exact List.getElem_mem hi))
  · rw [e, name_one v.states hk hi hx]
theorem init_found {c : Chart} (v : Valid c) {i : Nat} (hi : i < c.states.length) (h : (ETy.get .stat c.states i).initial ≠ []) : 0 ≤ placeM c.states (ETy.get .stat c.states i).initial := by
  have h0 := v.inits i hi
  unfold initE at h0
  split at h0
  · rw [must_zero (by decide)] at h0
    exact absurd (by simpa using h0) h
  · split at h0
    · exact absurd h0 (by decide)
    · rename_i h2
      simp only [Bool.or_eq_true, decide_eq_true_eq, not_or] at h2
      omega
theorem to_found {c : Chart} (v : Valid c) {i : Nat} (hi : i < c.trans.length) (h : (ETy.get .tran c.trans i).dst ≠ []) : 0 ≤ placeM c.states (ETy.get .tran c.trans i).dst := by
  have h0 := ((trans_zero c i _ _).1 (v.trans i hi)).2.2.2
  unfold afterE at h0
  rw [if_pos (by simpa using h)] at h0
  split at h0
  · exact absurd h0 (by decide)
  · rename_i h2
    have := of_decide_eq_false (Bool.not_eq_true _ ▸ h2)
    omega
theorem dot_no (r : Str) : nameM (doneT ++ r) = false := by
  unfold nameM
  have h : (doneT ++ r).any badB = true := by
    rw [List.any_append]
    have : doneT.any badB = true := by decide
    rw [this]; rfl
  rw [h]; simp
theorem done_found {c : Chart} (v : Valid c) {i : Nat} (hi : i < c.trans.length) {r : Str} (h : (ETy.get .tran c.trans i).event = doneT ++ r) : 0 ≤ placeM c.states r := by
  have h0 := ((trans_zero c i _ _).1 (v.trans i hi)).2.1
  rw [event_eq v.states, h] at h0
  rw [Bool.or_eq_true] at h0
  rcases h0 with h0 | h0
  · unfold baseE at h0
    rw [Bool.or_eq_true, Bool.or_eq_true] at h0
    rcases h0 with (h0 | h0) | h0
    · exact absurd (eq_of_beq h0) (by unfold doneT; simp)
    · have h1 := eq_of_beq h0
      unfold doneT errorT at h1
      simp at h1
    · rw [List.any_eq_true] at h0
      obtain ⟨x, hx, e⟩ := h0
      have h2 := v.names x (by simp [hx])
      rw [← eq_of_beq e, dot_no] at h2; cases h2
  · unfold rknownM at h0
    rw [List.any_eq_true] at h0
    obtain ⟨x, hx, e⟩ := h0
    rw [Bool.and_eq_true] at e
    have h2 := List.append_cancel_left (eq_of_beq e.2)
    rcases place_find c.states r with ⟨_, h3⟩ | ⟨k, e, _, _⟩
    · exact absurd h2.symm (h3 x hx)
    · rw [e]; omega
end Go.Proofs.YtcpnicfkpkonkaaGreatDoor

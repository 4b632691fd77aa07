/- No text twice: the program's word and the document's are alike (plain). Conditions: none. Events of transitions: the program's word and the document's are alike (plain). Conditions: states' names differ. A valid chart: its questions one by one; without one of its transitions; its names are found (plain). Conditions: none. An executor for function bodies of the model over data, part VI: a slice made, of elements of one cell. Conditions: its size. Contracts: the layer's copies; a chart without parts. Conditions: each one's own. The library's contracts of the shelf, laid at this dump by the kit's tools. Conditions: each one's own. Contracts: strings.Split at line feeds. Conditions: texts that are not too long; the library's variable. -/
import Derived.Test.YtcpnicfkpkonkaaGreatDoorTm
import Derived.Test.YtcpnicfkpkonkaaGreatDoorTj
import Derived.Test.YtcpnicfkpkonkaaGreatDoorTq
import Derived.Laws.OwnMore
import Derived.Shelf.LaysM
import Derived.Shelf.Strings.Split
import Derived.Test.YtcpnicfkpkonkaaGreatDoorProg
import Derived.Test.YtcpnicfkpkonkaaGreatDoorTa
namespace Go.Proofs.YtcpnicfkpkonkaaGreatDoor
open Go Go.Ev
set_option maxRecDepth 100000
def tw1 (l : List Str) (i : Nat) : Bool := (l.take i).any fun y => ETy.get .str l i == y
def twGo (l : List Str) : Nat → Nat → Bool
  | 0, _ => false
  | n + 1, i => tw1 l i || twGo l n (i + 1)
def rtwiceM (l : List Str) : Bool := twGo l l.length 0
theorem tw_go (l : List Str) : ∀ (n i : Nat), l.length - i = n → (twGo l n i = true ↔ ∃ k, i ≤ k ∧ k < l.length ∧ tw1 l k = true)
  | 0, i, h => by rw [twGo]; exact ⟨fun h => (by cases h), fun ⟨k, h1, h2, _⟩ => by omega⟩
  | n + 1, i, h => by
    rw [twGo, Bool.or_eq_true, tw_go l n (i + 1) (by omega)]
    constructor
    · rintro (h1 | ⟨k, h1, h2, h3⟩)
      · exact ⟨i, Nat.le_refl _, by omega, h1⟩
      · exact ⟨k, by omega, h2, h3⟩
    · rintro ⟨k, h1, h2, h3⟩
      by_cases hk : k = i
      · subst hk; exact .inl h3
      · exact .inr ⟨k, by omega, h2, h3⟩
theorem twice_iff (l : List Str) : rtwiceM l = false ↔ l.Nodup := by
  unfold rtwiceM
  rw [← Bool.not_eq_true, tw_go l l.length 0 (by omega), List.nodup_iff_pairwise_ne, List.pairwise_iff_getElem]
  constructor
  · intro h i j hi hj hij e
    refine h ⟨j, Nat.zero_le _, hj, ?_⟩
    unfold tw1
    rw [List.any_eq_true]
    refine ⟨l[i], ?_, ?_⟩
    · rw [List.mem_take_iff_getElem]; exact ⟨i, by omega, rfl⟩
    · rw [ETy.get_eq (t := .str) (List.getElem?_eq_getElem hj), e]; exact beq_self_eq_true _
  · rintro h ⟨k, _, h2, h3⟩
    unfold tw1 at h3
    rw [List.any_eq_true] at h3
    obtain ⟨y, hy, he⟩ := h3
    obtain ⟨i, hi, rfl⟩ := List.mem_take_iff_getElem.1 hy
    rw [ETy.get_eq (t := .str) (List.getElem?_eq_getElem h2)] at he
    exact h i k (by omega) h2 (by omega) (eq_of_beq he).symm
theorem sorted_S (l : List Str) : (sortS l).Pairwise fun x y => x ≤ y := by
  have h := List.pairwise_mergeSort (le := fun x y : Str => decide (x ≤ y)) (fun a b c h1 h2 => decide_eq_true (List.le_trans (of_decide_eq_true h1) (of_decide_eq_true h2))) (fun a b => by
    rcases List.le_total a b with h | h
    · rw [decide_eq_true h]; rfl
    · rw [decide_eq_true h, Bool.or_true]) l
  exact h.imp fun h => of_decide_eq_true h
theorem comp_len (s : List Str) : (compS s).length = s.length ↔ ∀ j, j < s.length → Lib.keeps s.toArray j = true := by
  unfold compS Lib.compact Lib.compactUpTo
  rw [List.length_map]
  constructor
  · intro h j hj
    have h2 : ((List.range s.length).filter (Lib.keeps s.toArray)).length = (List.range s.length).length := by rw [h, List.length_range]
    exact (List.length_filter_eq_length_iff.1 h2) j (List.mem_range.2 hj)
  · intro h
    rw [List.filter_eq_self.2 fun j hj => h j (List.mem_range.1 hj), List.length_range]
theorem keeps_iff {s : List Str} (hs : s.Pairwise fun x y => x ≤ y) : (∀ j, j < s.length → Lib.keeps s.toArray j = true) ↔ s.Nodup := by
  rw [List.nodup_iff_pairwise_ne, List.pairwise_iff_getElem]
  rw [List.pairwise_iff_getElem] at hs
  constructor
  · intro h i j hi hj hij e
    have h1 := h j hj
    unfold Lib.keeps at h1
    have h2 := of_decide_eq_true h1
    rcases h2 with h2 | h2
    · omega
    · refine h2 ?_
      rw [getElem!_pos s.toArray j (by simpa using hj), getElem!_pos s.toArray (j - 1) (by simp; omega)]
      simp only [List.getElem_toArray]
      have h3 : s[j - 1] ≤ s[j] := hs (j - 1) j (by omega) hj (by omega)
      have h4 : s[i] ≤ s[j - 1] := by
        by_cases h5 : i = j - 1
        · subst h5; exact List.le_refl _
        · exact hs i (j - 1) hi (by omega) (by omega)
      exact List.le_antisymm (e ▸ h4) h3
  · intro h j hj
    unfold Lib.keeps
    refine decide_eq_true ?_
    by_cases h0 : j = 0
    · exact .inl h0
    · refine .inr ?_
      rw [getElem!_pos s.toArray j (by simpa using hj), getElem!_pos s.toArray (j - 1) (by simp; omega)]
      simp only [List.getElem_toArray]
      exact fun e => h (j - 1) j (by omega) hj (by omega) e.symm
theorem once_iff (l : List Str) : onceM l = true ↔ l.Nodup := by
  unfold onceM
  have h : (((compS (sortS l)).length : Int) == ((sortS l).length : Int)) = true ↔ (compS (sortS l)).length = (sortS l).length := by rw [beq_iff_eq]; omega
  rw [h, comp_len, keeps_iff (sorted_S l)]
  exact (List.mergeSort_perm l _).nodup_iff
theorem once_eq (l : List Str) : onceM l = !rtwiceM l := by
  rw [Bool.eq_iff_iff, once_iff, ← twice_iff]; simp
theorem done_iff (s n : Str) : (s == doneT ++ n) = true ↔ hasP s doneT = true ∧ cutP s doneT = n := by
  have e5 : strLen doneT = 5 := rfl
  have el : strLen s = (s.length : Int) := rfl
  rw [beq_iff_eq]
  constructor
  · rintro rfl
    have h : hasP (doneT ++ n) doneT = true := by
      unfold hasP
      rw [Bool.and_eq_true]
      refine ⟨decide_eq_true ?_, ?_⟩
      · rw [el, e5, List.length_append]; show _ ≥ (5 : Int); have : doneT.length = 5 := rfl
        omega
      · rw [e5]; exact beq_iff_eq.2 (List.take_left' rfl)
    refine ⟨h, ?_⟩
    unfold cutP
    rw [h, cond_true, e5]; exact List.drop_left' rfl
  · rintro ⟨h, hn⟩
    unfold cutP at hn
    rw [h, cond_true, e5] at hn
    unfold hasP at h
    rw [Bool.and_eq_true, e5] at h
    have h2 : s.take 5 = doneT := eq_of_beq h.2
    rw [← hn]
    calc s = s.take 5 ++ s.drop 5 := (List.take_append_drop 5 s).symm
      _ = _ := by rw [h2]; rfl
def rknownM (l : List Ev.Stat) (s : Str) : Bool := l.any fun x : Ev.Stat => (x.kind == 2 || x.kind == 3) && s == doneT ++ x.name
def baseE (c : Chart) (s : Str) : Bool := s == [] || s == errorT || c.events.any fun x => s == x
theorem place_find (l : List Ev.Stat) (n : Str) : (placeM l n = -1 ∧ ∀ x ∈ l, x.name ≠ n) ∨ ∃ k : Nat, placeM l n = (k : Int) ∧ k < l.length ∧ (ETy.get .stat l k).name = n := by
  unfold placeM
  rcases firstAt_find (fun s : Ev.Stat => s.name == n) l 0 with ⟨h1, h2⟩ | ⟨k, x, h1, h2, h3⟩
  · refine .inl ⟨h1, fun x hx e => ?_⟩
    have := List.find?_eq_none.1 h2 x hx
    simp [e] at this
  · refine .inr ⟨k, by rw [Nat.zero_add] at h1; exact h1, (List.getElem?_eq_some_iff.1 h2).1, ?_⟩
    rw [ETy.get_eq (t := .stat) h2]
    have := List.find?_some h3
    exact eq_of_beq this
theorem name_one {l : List Ev.Stat} (hn : (l.map fun s : Ev.Stat => s.name).Nodup) {i j : Nat} (hi : i < l.length) (hj : j < l.length) (h : (ETy.get .stat l i).name = (ETy.get .stat l j).name) : i = j := by
  rw [ETy.get_eq (t := .stat) (List.getElem?_eq_getElem hi), ETy.get_eq (t := .stat) (List.getElem?_eq_getElem hj)] at h
  rw [List.nodup_iff_pairwise_ne, List.pairwise_iff_getElem] at hn
  rcases Nat.lt_trichotomy i j with h1 | h1 | h1
  · exact absurd (by rw [List.getElem_map, List.getElem_map]; exact h) (hn i j (by simpa using hi) (by simpa using hj) h1)
  · exact h1
  · exact absurd (by rw [List.getElem_map, List.getElem_map]; exact h.symm) (hn j i (by simpa using hj) (by simpa using hi) h1)
theorem event_eq {c : Chart} (hn : (c.states.map fun s : Ev.Stat => s.name).Nodup) (s : Str) : eventE c s = (baseE c s || rknownM c.states s) := by
  unfold eventE
  show (if baseE c s = true then true else _) = _
  cases baseE c s
  · rw [if_neg (by decide), Bool.false_or]
    unfold rknownM
    rw [Bool.eq_iff_iff, List.any_eq_true]
    constructor
    · intro h
      simp only [Bool.and_eq_true, decide_eq_true_eq] at h
      obtain ⟨⟨h1, h2⟩, h3⟩ := h
      rcases place_find c.states (cutP s doneT) with ⟨e, _⟩ | ⟨k, e, hk, hx⟩
      · rw [e] at h2; exact absurd h2 (by decide)
      · rw [e, Int.toNat_natCast] at h3
        refine ⟨ETy.get .stat c.states k, ?_, ?_⟩
        · rw [ETy.get_eq (t := .stat) (List.getElem?_eq_getElem hk)]; exact List.getElem_mem hk
        · rw [Bool.and_eq_true]
          exact ⟨h3, (done_iff s _).2 ⟨h1, hx.symm⟩⟩
    · rintro ⟨x, hx, h⟩
      rw [Bool.and_eq_true] at h
      obtain ⟨h1, h2⟩ := (done_iff s _).1 h.2
      obtain ⟨j, hj, rfl⟩ := List.mem_iff_getElem.1 hx
      rcases place_find c.states (cutP s doneT) with ⟨e, hno⟩ | ⟨k, e, hk, hy⟩
      · exact absurd h2.symm (hno _ (List.getElem_mem hj))
      · have ej : ETy.get .stat c.states j = c.states[j] := ETy.get_eq (t := .stat) (List.getElem?_eq_getElem hj)
        have : k = j := name_one hn hk hj (by rw [hy, ej]; exact h2)
        subst this
        rw [e, Int.toNat_natCast, h1, decide_eq_true (show (k : Int) ≥ 0 by omega), ej]
        exact h.1
  · rfl
theorem must_zero {b : Bool} {e : Int} (he : e ≠ 0) : mustM b e = 0 ↔ b = true := by
  unfold mustM
  cases b
  · rw [if_neg (by decide)]; exact ⟨fun h => absurd h he, fun h => (by cases h)⟩
  · rw [if_pos rfl]; exact ⟨fun _ => rfl, fun _ => rfl⟩
theorem and_zero {e r : Int} : andE e r = 0 ↔ e = 0 ∧ r = 0 := by
  unfold andE
  by_cases h : e = 0
  · subst h
    rw [if_neg (by decide)]; exact ⟨fun h => ⟨rfl, h⟩, fun h => h.2⟩
  · rw [if_pos (by simpa using h)]; exact ⟨fun h2 => absurd h2 h, fun h2 => absurd h2.1 h⟩
theorem first_zero (f : Nat → Int) : ∀ (m k : Nat), firstE f k m = 0 ↔ ∀ j, k ≤ j → j < k + m → f j = 0
  | 0, k => by rw [firstE]; exact ⟨fun _ j h1 h2 => by omega, fun _ => rfl⟩
  | m + 1, k => by
    rw [firstE]
    by_cases h : f k = 0
    · rw [h, if_neg (by decide), first_zero f m (k + 1)]
      refine ⟨fun h2 j h3 h4 => ?_, fun h2 j h3 h4 => h2 j (by omega) (by omega)⟩
      by_cases hj : j = k
      · subst hj; exact h
      · exact h2 j (by omega) (by omega)
    · rw [if_pos (by simpa using h)]
      exact ⟨fun h2 => absurd h2 h, fun h2 => absurd (h2 k (Nat.le_refl _) (by omega)) h⟩
structure Valid (c : Chart) : Prop where
  few : longM c = true
  names : ∀ s ∈ c.name :: c.events ++ (c.vars.map fun v : Var => v.name) ++ c.states.map fun s : Ev.Stat => s.name, nameM s = true
  events : c.events.Nodup
  vars : (c.vars.map fun v : Var => v.name).Nodup
  states : (c.states.map fun s : Ev.Stat => s.name).Nodup
  tree : rightT c.states = true
  inits : ∀ k, k < c.states.length → initE c.states k = 0
  kinds : ∀ k, k < c.vars.length → varE (ETy.get .var c.vars k) = 0
  blocks : ∀ k, k < c.states.length → blocksE c (ETy.get .stat c.states k) = 0
  trans : ∀ k, k < c.trans.length → transE c k (realM c.states) (ETy.get .tran c.trans k) = 0
theorem valid_iff (c : Chart) : checkE c = 0 ↔ Valid c := by
  unfold checkE q0E q1E q2E q3E q4E q5E q6E q7E
  simp only [and_zero, must_zero (show (4 : Int) ≠ 0 by decide), must_zero (show (2 : Int) ≠ 0 by decide), must_zero (show (3 : Int) ≠ 0 by decide), must_zero (show (9 : Int) ≠ 0 by decide), first_zero]
  have hn : (!(allN c (c.vars.map fun v : Var => v.name) (c.states.map fun s : Ev.Stat => s.name)).any fun s : Str => !nameM s) = true ↔ ∀ s ∈ c.name :: c.events ++ (c.vars.map fun v : Var => v.name) ++ c.states.map fun s : Ev.Stat => s.name, nameM s = true := by
    unfold allN
    rw [flatS_eq, Bool.not_eq_true', ← Bool.not_eq_true, List.any_eq_true]
    simp only [List.flatten_cons, List.flatten_nil, List.append_nil, List.singleton_append, List.append_assoc, List.cons_append]
    constructor
    · intro h s hs
      cases hb : nameM s
      · exact absurd ⟨s, hs, by rw [hb]; rfl⟩ h
      · rfl
    · rintro h ⟨s, hs, hb⟩
      rw [h s hs] at hb; cases hb
  have ht : twiceM c (c.vars.map fun v : Var => v.name) (c.states.map fun s : Ev.Stat => s.name) = true ↔ c.events.Nodup ∧ (c.vars.map fun v : Var => v.name).Nodup ∧ (c.states.map fun s : Ev.Stat => s.name).Nodup := by
    unfold twiceM
    rw [Bool.and_eq_true, Bool.and_eq_true, once_iff, once_iff, once_iff, and_assoc]
  rw [hn, ht]
  constructor
  · rintro ⟨h0, h1, ⟨h2, h3, h4⟩, h5, h6, h7, h8, h9, _⟩
    exact ⟨h0, h1, h2, h3, h4, h5, fun k hk => h6 k (by omega) (by omega), fun k hk => h7 k (by omega) (by omega), fun k hk => h8 k (by omega) (by omega), fun k hk => h9 k (by omega) (by omega)⟩
  · intro v
    exact ⟨v.few, v.names, ⟨v.events, v.vars, v.states⟩, v.tree, fun k _ hk => v.inits k (by omega), fun k _ hk => v.kinds k (by omega), fun k _ hk => v.blocks k (by omega), fun k _ hk => v.trans k (by omega), trivial⟩
/-! ### without one of its transitions -/
theorem long_iff (c : Chart) : longM c = true ↔ c.events.length ≤ 12 ∧ c.vars.length ≤ 8 ∧ c.states.length ≤ 40 ∧ c.trans.length ≤ 48 := by
  unfold longM
  simp only [Bool.and_eq_true, decide_eq_true_eq]
  omega
/-! ### its names are found -/
end Go.Proofs.YtcpnicfkpkonkaaGreatDoor
namespace Go.Ev
open Go.RowKit
theorem All2.replicate {α β : Type} {R : α → β → Prop} {a : List α} {b : β} (h : All2 R a [b]) : ∀ n : Nat, All2 R ((List.replicate n a).flatMap id) (List.replicate n b)
  | 0 => .nil
  | n + 1 => by
    rw [List.replicate_succ, List.replicate_succ, List.flatMap_cons]
    exact h.append (All2.replicate h n)
section
variable {P : Program} {f : Go.Sy.Md} {root : Code} {Γ : Ctx} {Q : Out} {st : ST} {k : List PI}
end
end Go.Ev
namespace Go.Proofs.YtcpnicfkpkonkaaGreatDoor
open Go Go.Ev
set_option maxRecDepth 100000
theorem Does.sub {P : Program} {f : FuncId} {args args' : List SX} {ck ck' : List Chunk} {ret : SV} (h : ∀ (V : Vn) (vs : List Value), All2 (SX.R V) args vs → All2 (SX.R V) args' vs) (d : Does P f args' ck ret ck') : Does P f args ck ret ck' :=
  fun w V vs hw hT hv => d w V vs hw hT (h V vs hv)
theorem nil_reads {H : Mem} {t : ETy} {u : Value} (h : PR H (.v (.slice none 0 0)) u) : PR H (.lst t []) u := by
  cases h; exact .emp t none 0 (fun _ => rfl)
theorem zero_reads {V : Vn} {a : Str} {u : Value} (h : SX.R V (.agg [.pd (.str a), .pd (.v (.slice none 0 0)), .pd (.v (.slice none 0 0)), .pd (.v (.slice none 0 0)), .pd (.v (.slice none 0 0))]) u) : SX.R V (.e .chart ⟨a, [], [], [], []⟩) u := by
  obtain ⟨us, e, hu⟩ := h
  refine ⟨us, e, ?_⟩
  cases hu with | cons h0 hu => cases hu with | cons h1 hu => cases hu with | cons h2 hu => cases hu with | cons h3 hu => cases hu with | cons h4 hu =>
    cases hu
    exact .cons h0 (.cons (nil_reads h1) (.cons (nil_reads h2) (.cons (nil_reads h3) (.cons (nil_reads h4) .nil))))
theorem check_zero (a : Str) : Does Tryz.prog 10 [.agg [.pd (.str a), .pd (.v (.slice none 0 0)), .pd (.v (.slice none 0 0)), .pd (.v (.slice none 0 0)), .pd (.v (.slice none 0 0))]] [] (.x (.i (checkE ⟨a, [], [], [], []⟩))) [] :=
  Does.sub (fun V vs hv => by
    cases hv with | cons h1 hv =>
      cases hv
      exact .cons (zero_reads h1) .nil) (check_spec ⟨a, [], [], [], []⟩ ⟨by simp, by simp⟩)
def eCheck0 : Nat × (List SX → List Chunk → Option (Option Prop × SV × List Chunk)) := (10, fun
  | [.agg [.pd (.str a), .pd (.v (.slice none 0 0)), .pd (.v (.slice none 0 0)), .pd (.v (.slice none 0 0)), .pd (.v (.slice none 0 0))]], [] => some (none, .x (.c (.pd (.int .i64 (checkE ⟨a, [], [], [], []⟩)))), [])
  | _, _ => none)
theorem eCheck0_ok (vs : List SX) (ck : List Chunk) (p : Option Prop) (ret : SV) (ck' : List Chunk) (h : eCheck0.2 vs ck = some (p, ret, ck')) (hp : Holds p) : Does Tryz.prog eCheck0.1 vs ck ret ck' := by
  unfold eCheck0 at h
  simp only at h
  split at h
  · rename_i a
    simp only [Option.some.injEq, Prod.mk.injEq] at h
    obtain ⟨rfl, rfl, rfl⟩ := h
    exact check_zero a
  · simp at h
/-! ### a mark: guards that are literal count as none -/
def eLit : Nat × (List SX → List Chunk → Option (Option Prop × SV × List Chunk)) := (1000000007, fun _ _ => none)
theorem eLit_ok (vs : List SX) (ck : List Chunk) (p : Option Prop) (ret : SV) (ck' : List Chunk) (h : eLit.2 vs ck = some (p, ret, ck')) (_ : Holds p) : Does Tryz.prog eLit.1 vs ck ret ck' := by cases h
/-! ### copies -/
def roomC2 (a : List Str) (b : List Var) (c : List Ev.Stat) (d : List Tran) : Prop := room a.length 16 ∧ (room b.length 64 ∧ (room c.length 96 ∧ room d.length 88))
theorem copied_spec (n : Str) (a : List Str) (b : List Var) (c : List Ev.Stat) (d : List Tran) (h : roomC2 a b c d) : Does Tryz.prog 11 [.agg [.pd (.str n), .pd (.lst .str a), .pd (.lst .var b), .pd (.lst .stat c), .pd (.lst .tran d)]] [] (.x (.agg [.pd (.str n), .own 0, .own 1, .own 2, .own 3])) [.own 9 .str a, .own 66 .var b, .own 39 .stat c, .own 42 .tran d] := by
  refine Does.go (cfg := cfg0) cfg0_ok Tryz.func11 (by kernel_rfl) (by kernel_rfl) (t := (.need (room (List.length ([] ++ a)) 16) (.need (room (List.length ([] ++ b)) 64) (.need (room (List.length ([] ++ c)) 96) (.need (room (List.length ([] ++ d)) 88) (.ret (.x (.agg [.pd (.str n), .own 0, .own 1, .own 2, .own 3])) [.own 9 .str ([] ++ a), .own 66 .var ([] ++ b), .own 39 .stat ([] ++ c), .own 42 .tran ([] ++ d)])))))) (by kernel_rfl) fun Γ => ?_
  exact ⟨h.1, h.2.1, h.2.2.1, h.2.2.2, rfl, rfl⟩
def eCopied : Nat × (List SX → List Chunk → Option (Option Prop × SV × List Chunk)) := (11, fun
  | [.agg [.pd (.str n), .pd (.lst .str a), .pd (.lst .var b), .pd (.lst .stat c), .pd (.lst .tran d)]], [] => some (some (roomC2 a b c d), .x (.agg [.pd (.str n), .own 0, .own 1, .own 2, .own 3]), [.own 9 .str a, .own 66 .var b, .own 39 .stat c, .own 42 .tran d])
  | _, _ => none)
theorem eCopied_ok (vs : List SX) (ck : List Chunk) (p : Option Prop) (ret : SV) (ck' : List Chunk) (h : eCopied.2 vs ck = some (p, ret, ck')) (hp : Holds p) : Does Tryz.prog eCopied.1 vs ck ret ck' := by
  unfold eCopied at h
  simp only at h
  split at h
  · rename_i n a b c d
    simp only [Option.some.injEq, Prod.mk.injEq] at h
    obtain ⟨rfl, rfl, rfl⟩ := h
    exact copied_spec n a b c d hp
  · simp at h
/-! ### a chart without parts is out of order -/
theorem check_none : checkE ⟨[99], [], [], [], []⟩ = 9 := by
  have h1 : longM ⟨[99], [], [], [], []⟩ = true := by decide
  have h2 : (!(allN ⟨[99], [], [], [], []⟩ [] []).any fun s : Str => !nameM s) = true := by decide
  have h3 : twiceM ⟨[99], [], [], [], []⟩ [] [] = true := by
    unfold twiceM
    rw [(once_iff []).2 List.nodup_nil]; rfl
  have h4 : rightT [] = false := by decide
  show q0E _ [] [] [] = 9
  unfold q0E q1E q2E q3E
  rw [h1, h2, h3]
  show andE 0 (andE 0 (andE 0 (andE (mustM (rightT []) 9) _))) = 9
  rw [h4]; rfl
end Go.Proofs.YtcpnicfkpkonkaaGreatDoor
namespace Go.Proofs
open Go.Shelf
def Tryz.lays146_ren : Go.Shelf.Ren := ⟨fun | 146 => 61 | 221 => 122 | 268 => 165 | 138 => 166 | 143 => 167 | 195 => 204 | 197 => 205 | 218 => 206 | 219 => 207 | 260 => 239 | 217 => 240 | 225 => 241 | 224 => 242 | 267 => 243 | 266 => 262 | 314 => 263 | n => n, fun | 9 => 9 | 31 => 22 | 3 => 3 | 4 => 4 | 0 => 0 | 105 => 230 | 21 => 21 | 5 => 5 | 46 => 147 | 119 => 276 | 139 => 279 | 138 => 278 | 146 => 218 | 51 => 206 | n => n, fun | 1 => 0 | 3 => 2 | 4 => 3 | n => n⟩
theorem Tryz.lays146 : Go.Proofs.Lays.n146 Tryz.prog Tryz.lays146_ren := {
  mixed := by kernel_rfl
  f138 := Tryz.func166.trans (congrArg some (by kernel_rfl))
  f143 := Tryz.func167.trans (congrArg some (by kernel_rfl))
  f146 := Tryz.func61.trans (congrArg some (by kernel_rfl))
  f195 := Tryz.func204.trans (congrArg some (by kernel_rfl))
  f197 := Tryz.func205.trans (congrArg some (by kernel_rfl))
  f217 := Tryz.func240.trans (congrArg some (by kernel_rfl))
  f218 := Tryz.func206.trans (congrArg some (by kernel_rfl))
  f219 := Tryz.func207.trans (congrArg some (by kernel_rfl))
  f221 := Tryz.func122.trans (congrArg some (by kernel_rfl))
  f224 := Tryz.func242.trans (congrArg some (by kernel_rfl))
  f225 := Tryz.func241.trans (congrArg some (by kernel_rfl))
  f260 := Tryz.func239.trans (congrArg some (by kernel_rfl))
  f266 := Tryz.func262.trans (congrArg some (by kernel_rfl))
  f267 := Tryz.func243.trans (congrArg some (by kernel_rfl))
  f268 := Tryz.func165.trans (congrArg some (by kernel_rfl))
  f314 := Tryz.func263.trans (congrArg some (by kernel_rfl))
  t0 := Tryz.underlying0
  a0 := Tryz.isAgg0
  z0 := Tryz.sizeOf0
  v0 := Tryz.zeroValue0
  t3 := Tryz.underlying3
  a3 := Tryz.isAgg3
  z3 := Tryz.sizeOf3
  v3 := Tryz.zeroValue3
  t4 := Tryz.underlying4
  a4 := Tryz.isAgg4
  z4 := Tryz.sizeOf4
  v4 := Tryz.zeroValue4
  t5 := Tryz.underlying5
  a5 := Tryz.isAgg5
  z5 := Tryz.sizeOf5
  v5 := Tryz.zeroValue5
  t9 := Tryz.underlying9
  a9 := Tryz.isAgg9
  z9 := Tryz.sizeOf9
  v9 := Tryz.zeroValue9
  t21 := Tryz.underlying21
  a21 := Tryz.isAgg21
  z21 := Tryz.sizeOf21
  v21 := Tryz.zeroValue21
  t31 := Tryz.underlying22
  a31 := Tryz.isAgg22
  z31 := Tryz.sizeOf22
  v31 := Tryz.zeroValue22
  t46 := Tryz.underlying147
  a46 := Tryz.isAgg147
  z46 := Tryz.sizeOf147
  v46 := Tryz.zeroValue147
  t51 := Tryz.underlying206
  a51 := Tryz.isAgg206
  z51 := Tryz.sizeOf206
  v51 := Tryz.zeroValue206
  t105 := Tryz.underlying230
  a105 := Tryz.isAgg230
  z105 := Tryz.sizeOf230
  v105 := Tryz.zeroValue230
  t119 := Tryz.underlying276
  a119 := Tryz.isAgg276
  z119 := Tryz.sizeOf276
  t138 := Tryz.underlying278
  a138 := Tryz.isAgg278
  z138 := Tryz.sizeOf278
  v138 := Tryz.zeroValue278
  t139 := Tryz.underlying279
  a139 := Tryz.isAgg279
  z139 := Tryz.sizeOf279
  v139 := Tryz.zeroValue279
  t146 := Tryz.underlying218
  a146 := Tryz.isAgg218
  z146 := Tryz.sizeOf218
  v146 := Tryz.zeroValue218
  g1 := by kernel_rfl
  g3 := by kernel_rfl
  g4 := by kernel_rfl }
open Go.RowKit Go.Lib in
theorem Tryz.strings_Split (s sep : ByteArray) (m : Int) (w : World) (hs : s.size < 4294967281) (hm : w.cell? ⟨0, 0, none⟩ = some (.int .i64 m)) (h1 : 1 ≤ sep.size) :
    Calls Tryz.prog 61 #[.string s, .string sep] w fun e w' =>
      e = .returned (.slice (some ⟨w.heap.size, 0, none⟩) (Lib.countB s sep + 1) (Lib.countB s sep + 1)) ∧ w' = w.alloc (.cells ((Lib.splitB sep 0 (Lib.countB s sep) s).map Value.string).toArray 9) := Any.strings_Split Tryz.lays146 (by kernel_rfl) s sep m w hs hm h1
end Go.Proofs
namespace Go.Proofs.YtcpnicfkpkonkaaGreatDoor
open Go Go.Ev Go.RowKit
set_option maxRecDepth 100000
theorem occ_one (s : Str) (b : UInt8) (j : Nat) : Lib.occAt s [b] j = true ↔ s[j]? = some b := by
  have h : s[j]? = (s.drop j).head? := by rw [List.head?_drop]
  rw [h]
  unfold Lib.occAt
  cases hd : s.drop j with
  | nil => simp [List.isPrefixOf]
  | cons x r => simp [List.isPrefixOf]; exact eq_comm
theorem index_byte (s : Str) (b : UInt8) : (Lib.index s [b] = -1 ∧ b ∉ s) ∨ ∃ a r, s = a ++ b :: r ∧ b ∉ a ∧ Lib.index s [b] = (a.length : Int) := by
  rcases Lib.index_spec s [b] with ⟨h1, h2⟩ | ⟨i, h1, h2, h3, h4⟩
  · refine .inl ⟨h1, fun hm => ?_⟩
    obtain ⟨j, hj, e⟩ := List.mem_iff_getElem.1 hm
    have := h2 j (by omega)
    rw [(occ_one s b j).2 (by rw [List.getElem?_eq_getElem hj, e])] at this
    cases this
  · have h5 := (occ_one s b i).1 h3
    obtain ⟨hi, h6⟩ := List.getElem?_eq_some_iff.1 h5
    refine .inr ⟨s.take i, s.drop (i + 1), ?_, fun hm => ?_, by rw [h1, List.length_take]; omega⟩
    · rw [← h6, ← List.drop_eq_getElem_cons hi, List.take_append_drop]
    · obtain ⟨j, hj, e⟩ := List.mem_iff_getElem.1 hm
      rw [List.length_take] at hj
      have h7 := h4 j (by omega)
      rw [(occ_one s b j).2 (by rw [List.getElem?_eq_getElem (by omega)]; rw [List.getElem_take] at e; rw [e])] at h7
      cases h7
def cutN : Str → Str → List Str
  | cur, [] => [cur]
  | cur, c :: r => bif c == 10 then cur :: cutN [] r else cutN (cur ++ [c]) r
theorem cutN_none : ∀ (s cur : Str), (10 : UInt8) ∉ s → cutN cur s = [cur ++ s]
  | [], cur, _ => by simp [cutN]
  | c :: r, cur, h => by
    simp only [List.mem_cons, not_or] at h
    have hc : (c == 10) = false := by simpa using fun e => h.1 e.symm
    rw [cutN, hc, cond_false, cutN_none r _ h.2]; simp
theorem cutN_app : ∀ (a cur b : Str), (10 : UInt8) ∉ a → cutN cur (a ++ 10 :: b) = (cur ++ a) :: cutN [] b
  | [], cur, b, _ => by simp [cutN]
  | c :: r, cur, b, h => by
    simp only [List.mem_cons, not_or] at h
    have hc : (c == 10) = false := by simpa using fun e => h.1 e.symm
    rw [List.cons_append, cutN, hc, cond_false, cutN_app r _ b h.2]; simp
theorem splitK_lines : ∀ (k : Nat) (s : Str), Lib.count s [10] = k → Lib.splitK [10] 0 k s = cutN [] s
  | 0, s, h => by
    rw [Lib.count_one] at h
    rw [cutN_none s [] (List.count_eq_zero.1 h)]; rfl
  | k + 1, s, h => by
    rcases index_byte s 10 with ⟨h1, _⟩ | ⟨a, r, rfl, h2, h3⟩
    · rw [Lib.count_miss h1] at h; omega
    · have h4 := Lib.count_hit (by simp) h3
      have e : (a ++ 10 :: r).drop (a.length + 1) = r := by
        rw [← List.drop_drop, List.drop_left]; rfl
      rw [show ([10] : Str).length = 1 from rfl, e] at h4
      rw [Lib.splitK, if_neg (by rw [h3]; simp), h3, Int.toNat_natCast, show ([10] : Str).length = 1 from rfl, e, Nat.add_zero, List.take_left, cutN_app a [] r h2, splitK_lines k r (by omega)]; rfl
theorem split_lines (s : Str) : (Lib.splitB ⟨#[10]⟩ 0 (Lib.countB (bs s) ⟨#[10]⟩) (bs s)).map (·.data.toList) = cutN [] s := by
  rw [Lib.splitB_data]
  have e : (bs s).data.toList = s := bs_toList s
  rw [e]
  exact splitK_lines _ s (by show Lib.count s [10] = Lib.count (bs s).data.toList _; rw [e])
theorem cutN_len : ∀ (s cur : Str), (cutN cur s).length = s.countP (· == 10) + 1
  | [], cur => rfl
  | c :: r, cur => by
    rw [cutN, List.countP_cons]
    cases h : c == 10
    · rw [cond_false, cutN_len r]; simp
    · rw [cond_true, List.length_cons, cutN_len r]; simp
theorem cutN_length (s : Str) : (cutN [] s).length ≤ s.length + 1 := by
  rw [cutN_len]; have := List.countP_le_length (p := (· == (10 : UInt8))) (l := s); omega
theorem maxlen_cell {V : Vn} {w : World} (hT : Tabs Tryz.prog V.H) (hi : HIn V.H w) : ∃ m, w.cell? ⟨0, 0, none⟩ = some (.int .i64 m) := by
  obtain ⟨g, cs, e, fr, m, h1, h2, h3⟩ := hT.2.2.2 (by kernel_rfl)
  have e1 : g = 0 := (Option.some.inj ((show Tryz.prog.globalNamed "internal/bytealg.MaxLen" = some 0 by kernel_rfl).symm.trans h1)).symm
  subst e1
  have h4 := hi _ _ h2
  exact ⟨m, by simp only [World.cell?, h4]; exact h3⟩
theorem two_strs {V : Vn} {a b : Str} {vs : List Value} (hv : All2 (SX.R V) [SX.s a, SX.s b] vs) : vs = [.string (bs a), .string (bs b)] := by
  cases hv with
  | cons a1 hv => cases hv with
    | cons a2 hv =>
      cases hv
      have a1' : PR V.H (.str a) _ := a1
      have a2' : PR V.H (.str b) _ := a2
      cases a1'; cases a2'
      rfl
theorem str_flat {H : Mem} : ∀ (l : List Str), All2 (PR H) (l.flatMap ETy.str.enc) (l.map fun s => Value.string (bs s))
  | [] => .nil
  | s :: r => .cons (.str s) (str_flat r)
theorem splitN_spec (s : Str) (hs : s.length < 4294967281) : Does Tryz.prog 61 [.s s, .s [10]] [] (.x (.c (.own 0))) [.own 9 .str (cutN [] s)] := by
  intro w V vs hw hT hv
  rw [two_strs hv]
  obtain ⟨m, hm⟩ := maxlen_cell hT hw.imm
  have hp := split_lines s
  have hl := congrArg List.length hp
  rw [List.length_map] at hl
  have hc : Lib.countB (bs s) ⟨#[10]⟩ + 1 = (cutN [] s).length := by
    rw [← hl]; exact (Lib.splitB_all ⟨#[10]⟩ (by decide) 0 _ (bs s) rfl).symm
  refine (Tryz.strings_Split (bs s) (bs [10]) m w (by rw [bs_size]; exact hs) hm (by decide)).mono fun e w' ⟨he, hw'⟩ => ?_
  subst he; subst hw'
  have hcells : (Lib.splitB (bs [10]) 0 (Lib.countB (bs s) (bs [10])) (bs s)).map Value.string = (cutN [] s).map fun s => Value.string (bs s) := by
    rw [← hp, List.map_map]
    exact List.map_congr_left fun x _ => by simp [bs_eta]
  have hc' : Lib.countB (bs s) (bs [10]) + 1 = (cutN [] s).length := hc
  rw [hcells, hc']
  have hlen := cutN_length s
  obtain ⟨V2, hag, _, _, e2, hw2⟩ := hw.regrow (ck := []) rfl (Nat.zero_le _) none (c := .own 9 .str (cutN [] s)) (v' := .slice (some ⟨w.heap.size, 0, none⟩) (cutN [] s).length (cutN [] s).length) (s' := w.heap.size) (w' := w.alloc (.cells ((cutN [] s).map fun s => Value.string (bs s)).toArray 9)) (row := none) (by simp) (World.grownBy_alloc w _ none) (fun V' hag hH f1 f2 => by
    have f3 : V'.ov 0 = .slice (some ⟨w.heap.size, 0, none⟩) (cutN [] s).length (cutN [] s).length := f2
    have f4 : V'.σ 0 = w.heap.size := f1
    refine ⟨⟨(cutN [] s).map fun s => Value.string (bs s), ?_, str_flat _, fun b hb => ?_⟩, fun b hb => ?_⟩
    · rw [f2]
      have := World.ownsRow_lit (base := 0) (size := 1) (e := 9) w ((cutN [] s).map fun s => Value.string (bs s)).toArray (cutN [] s).length (Nat.zero_le _) (by unfold maxLen; omega) (by simp)
      exact this
    · rw [f2] at hb; simp only [Value.ownBlock, Option.some.injEq] at hb; rw [f1, ← hb]
    · right; simp only [Chunk.blk] at hb; rw [f2] at hb; simp only [Value.ownBlock, Option.some.injEq] at hb; omega)
  exact ⟨_, V2, rfl, e2.symm, hw2⟩
def eSplitN : Nat × (List SX → List Chunk → Option (Option Prop × SV × List Chunk)) := (61, fun
  | [.c (.pd (.str s)), .c (.pd (.str [10]))], [] => some (some (s.length < 4294967281), .x (.c (.own 0)), [.own 9 .str (cutN [] s)])
  | _, _ => none)
theorem eSplitN_ok (vs : List SX) (ck : List Chunk) (p : Option Prop) (ret : SV) (ck' : List Chunk) (h : eSplitN.2 vs ck = some (p, ret, ck')) (hp : Holds p) : Does Tryz.prog eSplitN.1 vs ck ret ck' := by
  unfold eSplitN at h
  simp only at h
  split at h
  · rename_i s
    simp only [Option.some.injEq, Prod.mk.injEq] at h
    obtain ⟨rfl, rfl, rfl⟩ := h
    exact splitN_spec s hp
  · simp at h
end Go.Proofs.YtcpnicfkpkonkaaGreatDoor

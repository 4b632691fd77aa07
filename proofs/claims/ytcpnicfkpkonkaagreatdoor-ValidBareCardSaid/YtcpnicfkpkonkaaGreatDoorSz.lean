/- A valid chart without blocks and guards; one with more events (plain). Conditions: none. An executor for function bodies of the model over data, part VI: a slice made, of elements of one cell. Conditions: its size. Contracts: the layer's copies; a chart without parts. Conditions: each one's own. The library's contracts of the shelf, laid at this dump by the kit's tools. Conditions: each one's own. Contracts: strings.Split at line feeds. Conditions: texts that are not too long; the library's variable. -/
import Derived.Test.YtcpnicfkpkonkaaGreatDoorSg
import Derived.Test.YtcpnicfkpkonkaaGreatDoorTm
import Derived.Laws.OwnMore
import Derived.Test.YtcpnicfkpkonkaaGreatDoorTq
import Derived.Shelf.LaysM
import Derived.Shelf.Strings.Split
import Derived.Test.YtcpnicfkpkonkaaGreatDoorProg
import Derived.Test.YtcpnicfkpkonkaaGreatDoorTa
namespace Go.Proofs.YtcpnicfkpkonkaaGreatDoor
open Go Go.Ev
set_option maxRecDepth 100000
def bareS (s : Ev.Stat) : Ev.Stat := { s with entry := [], leave := [] }
def bareT (t : Tran) : Tran := { t with guard := [], acts := [] }
def bareC (c : Chart) : Chart := { c with states := c.states.map bareS, trans := c.trans.map bareT }
def moreC (c : Chart) (n : Str) : Chart := { c with events := c.events ++ [n] }
theorem bare_get (l : List Ev.Stat) (k : Nat) : ETy.get .stat (l.map bareS) k = bareS (ETy.get .stat l k) := by
  unfold ETy.get
  rw [List.getD_eq_getElem?_getD, List.getD_eq_getElem?_getD, List.getElem?_map]
  cases l[k]? <;> rfl
theorem bare_getT (l : List Tran) (k : Nat) : ETy.get .tran (l.map bareT) k = bareT (ETy.get .tran l k) := by
  unfold ETy.get
  rw [List.getD_eq_getElem?_getD, List.getD_eq_getElem?_getD, List.getElem?_map]
  cases l[k]? <;> rfl
theorem bare_deep (d : Int) : ∀ l : List Ev.Stat, deepN d (l.map bareS) = deepN d l
  | [] => rfl
  | s :: r => by rw [List.map_cons, deepN, deepN, bare_deep d r]; rfl
theorem bare_end (l : List Ev.Stat) (i : Nat) : endM (l.map bareS) i = endM l i := by
  unfold endM
  rw [bare_get, ← List.map_drop, bare_deep]; rfl
theorem bare_upGo (l : List Ev.Stat) (d : Int) : ∀ k, upGo (l.map bareS) d k = upGo l d k
  | 0 => rfl
  | k + 1 => by rw [upGo, upGo, bare_get, bare_upGo l d k]; rfl
theorem bare_up (l : List Ev.Stat) (i : Nat) : upM (l.map bareS) i = upM l i := by
  unfold upM
  rw [bare_get, bare_upGo]; rfl
theorem bare_shapeGo : ∀ (l : List Ev.Stat) (a r : Int), shapeGo a r (l.map bareS) = shapeGo a r l
  | [], _, _ => rfl
  | s :: q, a, r => by
    rw [List.map_cons, shapeGo, shapeGo, bare_shapeGo q, bare_shapeGo q]; rfl
theorem bare_kidsGo (l : List Ev.Stat) (e : Nat) : ∀ n k, kidsGo (l.map bareS) e n k = kidsGo l e n k
  | 0, _ => rfl
  | n + 1, k => by rw [kidsGo, kidsGo, bare_end, bare_kidsGo l e n]
theorem bare_kids (l : List Ev.Stat) (i : Nat) : kidsM (l.map bareS) i = kidsM l i := by
  unfold kidsM
  rw [bare_end, bare_kidsGo, List.length_map]
theorem bare_okAt (l : List Ev.Stat) (k : Nat) : okAt (l.map bareS) k = okAt l k := by
  unfold okAt
  rw [bare_kids, bare_get]
  have h1 : kidsOk (l.map bareS) (bareS (ETy.get .stat l k)) (kidsM l k) = kidsOk l (ETy.get .stat l k) (kidsM l k) := by
    unfold kidsOk
    congr 1
    funext y
    rw [bare_get]; rfl
  have h2 : realN (l.map bareS) (kidsM l k) = realN l (kidsM l k) := by
    unfold realN
    congr 2
    funext y
    rw [bare_get]; rfl
  rw [h1, h2]; rfl
theorem bare_treeGo (l : List Ev.Stat) : ∀ n k, treeGo (l.map bareS) n k = treeGo l n k
  | 0, _ => rfl
  | n + 1, k => by rw [treeGo, treeGo, bare_okAt, bare_treeGo l n]
theorem bare_right (l : List Ev.Stat) : rightT (l.map bareS) = rightT l := by
  unfold rightT shapeM
  rw [bare_shapeGo, bare_treeGo, List.length_map]
theorem bare_has (l : List Ev.Stat) (i : Int) : thasM (l.map bareS) i = thasM l i := by
  unfold thasM
  rw [bare_right, List.length_map]
theorem bare_parent (l : List Ev.Stat) (i : Int) : parentM (l.map bareS) i = parentM l i := by
  unfold parentM
  rw [bare_has, bare_up]
theorem bare_within (l : List Ev.Stat) (i j : Int) : withinM (l.map bareS) i j = withinM l i j := by
  unfold withinM
  rw [bare_has, bare_has, bare_end]
theorem bare_domGo (l : List Ev.Stat) (j : Int) : ∀ n k, domGo (l.map bareS) j n k = domGo l j n k
  | 0, _ => rfl
  | n + 1, k => by rw [domGo, domGo, bare_end, bare_up, bare_get, bare_domGo l j n]; rfl
theorem bare_dom (l : List Ev.Stat) (i j : Int) : domM (l.map bareS) i j = domM l i j := by
  unfold domM
  rw [bare_has, bare_has, bare_domGo, List.length_map]
theorem bare_place (n : Str) : ∀ (l : List Ev.Stat) (i : Int), firstAt (fun s : Ev.Stat => s.name == n) (l.map bareS) i = firstAt (fun s : Ev.Stat => s.name == n) l i
  | [], _ => rfl
  | s :: r, i => by rw [List.map_cons, firstAt, firstAt, bare_place n r]; rfl
theorem bare_placeM (l : List Ev.Stat) (n : Str) : placeM (l.map bareS) n = placeM l n := bare_place n l 0
theorem bare_init (l : List Ev.Stat) (i : Nat) : initE (l.map bareS) i = initE l i := by
  unfold initE
  rw [bare_get]
  show (if ((ETy.get .stat l i).kind != 2 && !pastM (ETy.get .stat l i).kind) = true then mustM ((ETy.get .stat l i).initial == []) 1
    else if (decide (placeM (l.map bareS) (ETy.get .stat l i).initial < 0) || pastM (ETy.get .stat (l.map bareS) (placeM (l.map bareS) (ETy.get .stat l i).initial).toNat).kind) = true then 2
    else if ((ETy.get .stat l i).kind == 2) = true then mustM (parentM (l.map bareS) (placeM (l.map bareS) (ETy.get .stat l i).initial) == (i : Int)) 2
    else if ((ETy.get .stat l i).kind == 5) = true then mustM (parentM (l.map bareS) (placeM (l.map bareS) (ETy.get .stat l i).initial) == parentM (l.map bareS) i) 2
    else mustM (withinM (l.map bareS) (parentM (l.map bareS) i) (placeM (l.map bareS) (ETy.get .stat l i).initial)) 2) = _
  rw [bare_placeM, bare_get, bare_parent, bare_parent, bare_within]; rfl
theorem bare_event (c : Chart) (s : Str) : eventE (bareC c) s = eventE c s := by
  unfold eventE
  show (if (s == [] || s == errorT || c.events.any fun x => s == x) = true then true else hasP s doneT && decide (placeM (c.states.map bareS) (cutP s doneT) ≥ 0) && ((ETy.get .stat (c.states.map bareS) (placeM (c.states.map bareS) (cutP s doneT)).toNat).kind == 2 || (ETy.get .stat (c.states.map bareS) (placeM (c.states.map bareS) (cutP s doneT)).toNat).kind == 3)) = _
  rw [bare_placeM, bare_get]; rfl
theorem bare_names (l : List Ev.Stat) : (l.map bareS).map (fun s : Ev.Stat => s.name) = l.map fun s : Ev.Stat => s.name := by
  rw [List.map_map]; rfl
theorem block_nil (ev : List Str) (vs : List Var) : blockE ev vs [] = 0 := rfl
theorem bare_blocks (c : Chart) (s : Ev.Stat) : blocksE c (bareS s) = 0 := by
  unfold blocksE
  show (if (pastM s.kind && decide (IntKind.wrap .i64 (((([] : List Deed).length : Int)) + (([] : List Deed).length : Int)) > 0) || s.kind == 4 && decide ((([] : List Deed).length : Int) > 0)) = true then (1 : Int) else if (blockE c.events c.vars [] != 0) = true then blockE c.events c.vars [] else blockE c.events c.vars []) = 0
  rw [show decide (IntKind.wrap .i64 (((([] : List Deed).length : Int)) + (([] : List Deed).length : Int)) > 0) = false by decide, show decide ((([] : List Deed).length : Int) > 0) = false by decide, Bool.and_false, Bool.and_false, if_neg (by decide), block_nil]; rfl
theorem valid_bare {c : Chart} (v : Valid c) : Valid (bareC c) := by
  have h0 := (long_iff c).1 v.few
  refine ⟨(long_iff _).2 ⟨h0.1, h0.2.1, by show (c.states.map bareS).length ≤ 40; rw [List.length_map]; exact h0.2.2.1, by show (c.trans.map bareT).length ≤ 48; rw [List.length_map]; exact h0.2.2.2⟩, ?_, v.events, v.vars, ?_, ?_, fun k hk => ?_, v.kinds, fun k hk => ?_, fun k hk => ?_⟩
  · show ∀ s ∈ c.name :: c.events ++ (c.vars.map fun v : Var => v.name) ++ (c.states.map bareS).map fun s : Ev.Stat => s.name, nameM s = true
    rw [bare_names]; exact v.names
  · show ((c.states.map bareS).map fun s : Ev.Stat => s.name).Nodup
    rw [bare_names]; exact v.states
  · show rightT (c.states.map bareS) = true
    rw [bare_right]; exact v.tree
  · have hk' : k < (c.states.map bareS).length := hk
    rw [List.length_map] at hk'
    show initE (c.states.map bareS) k = 0
    rw [bare_init]; exact v.inits k hk'
  · show blocksE (bareC c) (ETy.get .stat (c.states.map bareS) k) = 0
    rw [bare_get]; exact bare_blocks _ _
  · have hk' : k < (c.trans.map bareT).length := hk
    rw [List.length_map] at hk'
    show transE (bareC c) k _ (ETy.get .tran (c.trans.map bareT) k) = 0
    rw [bare_getT]
    have hz := (trans_zero c k _ _).1 (v.trans k hk')
    have hb := (badsrc_iff c k hk' (by omega) _).1 hz.1
    refine (trans_zero _ k _ _).2 ⟨(badsrc_iff _ k hk (by show (c.trans.map bareT).length ≤ 1000; rw [List.length_map]; omega) _).2 ⟨hb.1, ?_, fun hp => ?_, ?_⟩, ?_, .inl rfl, ?_⟩
    · show (ETy.get .tran c.trans k).src < ((c.states.map bareS).length : Int)
      rw [List.length_map]; exact hb.2.1
    · show (ETy.get .tran (c.trans.map bareT) (k - 1)).src ≤ (ETy.get .tran c.trans k).src
      rw [bare_getT]; exact hb.2.2.1 hp
    · show (ETy.get .stat (c.states.map bareS) (ETy.get .tran c.trans k).src.toNat).kind ≤ 3
      rw [bare_get]; exact hb.2.2.2
    · rw [bare_event]; exact hz.2.1
    · have ha := hz.2.2.2
      unfold afterE at ha ⊢
      show (if (!((ETy.get .tran c.trans k).dst == [])) = true then (if decide (placeM (c.states.map bareS) (ETy.get .tran c.trans k).dst < 0) = true then 2
        else if decide (domM (c.states.map bareS) (ETy.get .tran c.trans k).src (placeM (c.states.map bareS) (ETy.get .tran c.trans k).dst) < 0) = true then 9 else blockE c.events c.vars [])
        else blockE c.events c.vars []) = (0 : Int)
      rw [bare_placeM, bare_dom, block_nil]
      split at ha
      · rename_i h1
        rw [if_pos h1]
        split at ha
        · exact absurd ha (by decide)
        · rename_i h2
          rw [if_neg h2]
          split at ha
          · exact absurd ha (by decide)
          · rename_i h3
            rw [if_neg h3]
      · rename_i h1
        rw [if_neg h1]
/-! ### one with more events -/
theorem deed_more {ev : List Str} {vs : List Var} (n : Str) {a : Deed} (h : deedE ev vs a = 0) : deedE (ev ++ [n]) vs a = 0 := by
  unfold deedE at h ⊢
  by_cases h1 : (a.kind != 1) = true
  · rw [if_pos h1] at h ⊢
    cases h2 : ev.any fun x => a.name == x
    · rw [h2, if_pos (by decide)] at h; exact absurd h (by decide)
    · rw [List.any_append, h2, Bool.true_or]; rfl
  · rw [if_neg h1] at h ⊢; exact h
theorem deeds_more {ev : List Str} {vs : List Var} (n : Str) : ∀ {l : List Deed}, deedsE ev vs l = 0 → deedsE (ev ++ [n]) vs l = 0
  | [], _ => rfl
  | a :: r, h => by
    rw [deedsE] at h ⊢
    by_cases h1 : deedE ev vs a = 0
    · rw [if_neg (by rw [h1]; decide)] at h
      rw [deed_more n h1, if_neg (by decide)]
      exact deeds_more n h
    · rw [if_pos (by simpa using h1)] at h
      exact absurd h h1
theorem block_more {ev : List Str} {vs : List Var} (n : Str) {l : List Deed} (h : blockE ev vs l = 0) : blockE (ev ++ [n]) vs l = 0 := by
  unfold blockE at h ⊢
  split at h
  · rename_i h1; rw [if_pos h1]
  · rename_i h1
    rw [if_neg h1]
    split at h
    · exact absurd h (by decide)
    · rename_i h2
      rw [if_neg h2]; exact deeds_more n h
theorem check_cases (c : Chart) : checkE c = 4 ∨ (longM c = true ∧ (checkE c = 2 ∨ ((!(allN c (c.vars.map fun v : Var => v.name) (c.states.map fun s : Ev.Stat => s.name)).any fun s : Str => !nameM s) = true ∧ (checkE c = 3 ∨ twiceM c (c.vars.map fun v : Var => v.name) (c.states.map fun s : Ev.Stat => s.name) = true)))) := by
  unfold checkE q0E
  cases h0 : longM c
  · exact .inl rfl
  · refine .inr ⟨rfl, ?_⟩
    rw [andE_neg (show (mustM true 4 != 0) = false from rfl)]
    unfold q1E
    cases h1 : !(allN c (c.vars.map fun v : Var => v.name) (c.states.map fun s : Ev.Stat => s.name)).any fun s : Str => !nameM s
    · exact .inl rfl
    · refine .inr ⟨rfl, ?_⟩
      rw [andE_neg (show (mustM true 2 != 0) = false from rfl)]
      unfold q2E
      cases h2 : twiceM c (c.vars.map fun v : Var => v.name) (c.states.map fun s : Ev.Stat => s.name)
      · exact .inl rfl
      · exact .inr rfl
theorem check_more {c : Chart} (v : Valid c) (n : Str) : checkE (moreC c n) = 0 ∨ checkE (moreC c n) = 4 ∨ checkE (moreC c n) = 2 ∨ checkE (moreC c n) = 3 := by
  rcases check_cases (moreC c n) with h | ⟨h0, h | ⟨h1, h | h2⟩⟩
  · exact .inr (.inl h)
  · exact .inr (.inr (.inl h))
  · exact .inr (.inr (.inr h))
  · refine .inl ?_
    unfold checkE q0E q1E q2E
    rw [h0, h1, h2, andE_neg (show (mustM true 4 != 0) = false from rfl), andE_neg (show (mustM true 2 != 0) = false from rfl), andE_neg (show (mustM true 3 != 0) = false from rfl)]
    unfold q3E q4E q5E q6E q7E
    simp only [and_zero, must_zero (show (9 : Int) ≠ 0 by decide), first_zero]
    refine ⟨v.tree, fun k _ hk => v.inits k (by have : k < 0 + c.states.length := hk; omega), fun k _ hk => v.kinds k (by have : k < 0 + c.vars.length := hk; omega), fun k _ hk => ?_, fun k _ hk => ?_, trivial⟩
    · have h := v.blocks k (by have : k < 0 + c.states.length := hk; omega)
      show blocksE (moreC c n) (ETy.get .stat c.states k) = 0
      generalize ETy.get .stat c.states k = s at h
      unfold blocksE at h ⊢
      split at h
      · exact absurd h (by decide)
      · rename_i h3
        rw [if_neg h3]
        by_cases h4 : blockE c.events c.vars s.entry = 0
        · rw [if_neg (by rw [h4]; decide)] at h
          have h5 : blockE (moreC c n).events (moreC c n).vars s.entry = 0 := block_more n h4
          rw [h5, if_neg (by decide)]
          exact block_more n h
        · rw [if_pos (by simpa using h4)] at h
          exact absurd h h4
    · have hk' : k < c.trans.length := by have : k < 0 + c.trans.length := hk
                                          omega
      have hz := (trans_zero c k _ _).1 (v.trans k hk')
      show transE (moreC c n) k (realM c.states) (ETy.get .tran c.trans k) = 0
      refine (trans_zero _ k _ _).2 ⟨hz.1, ?_, hz.2.2.1, ?_⟩
      · have h := hz.2.1
        rw [event_eq v.states] at h
        rw [event_eq (c := moreC c n) v.states]
        rw [Bool.or_eq_true] at h ⊢
        rcases h with h | h
        · refine .inl ?_
          unfold baseE at h ⊢
          show (_ || _ || (c.events ++ [n]).any _) = true
          rw [List.any_append]
          revert h
          cases (c.events.any fun x => (ETy.get .tran c.trans k).event == x)
          · intro h; rw [Bool.or_false] at h; rw [h]; rfl
          · intro _; simp
        · exact .inr h
      · have h := hz.2.2.2
        unfold afterE at h ⊢
        split at h
        · rename_i h1
          rw [if_pos h1]
          split at h
          · exact absurd h (by decide)
          · rename_i h2
            rw [if_neg (show ¬ decide (placeM (moreC c n).states (ETy.get .tran c.trans k).dst < 0) = true from h2)]
            split at h
            · exact absurd h (by decide)
            · rename_i h3
              rw [if_neg (show ¬ decide (domM (moreC c n).states (ETy.get .tran c.trans k).src (placeM (moreC c n).states (ETy.get .tran c.trans k).dst) < 0) = true from h3)]
              exact block_more n h
        · rename_i h1
          rw [if_neg h1]
          exact block_more n h
end Go.Proofs.YtcpnicfkpkonkaaGreatDoor
namespace Go.Ev
open Go.RowKit
theorem All2.replicate {α β : Type} {R : α → β → Prop} {a : List α} {b : β} (h : All2 R a [b]) : ∀ n : Nat, All2 R ((List.replicate n a).flatMap id) (List.replicate n b)
  | 0 => .nil
  | n + 1 => by
    rw [List.replicate_succ, List.replicate_succ, List.flatMap_cons]
    exact h.append (All2.replicate h n)
section
variable {P : Program} {f : Go.Sy.Md} {root : Code} {Γ : Ctx} {Q : Out} {st : ST} {k : List PI}
end
end Go.Ev
namespace Go.Proofs.YtcpnicfkpkonkaaGreatDoor
open Go Go.Ev
set_option maxRecDepth 100000
theorem Does.sub {P : Program} {f : FuncId} {args args' : List SX} {ck ck' : List Chunk} {ret : SV} (h : ∀ (V : Vn) (vs : List Value), All2 (SX.R V) args vs → All2 (SX.R V) args' vs) (d : Does P f args' ck ret ck') : Does P f args ck ret ck' :=
  fun w V vs hw hT hv => d w V vs hw hT (h V vs hv)
theorem nil_reads {H : Mem} {t : ETy} {u : Value} (h : PR H (.v (.slice none 0 0)) u) : PR H (.lst t []) u := by
  cases h; exact .emp t none 0 (fun _ => rfl)
theorem zero_reads {V : Vn} {a : Str} {u : Value} (h : SX.R V (.agg [.pd (.str a), .pd (.v (.slice none 0 0)), .pd (.v (.slice none 0 0)), .pd (.v (.slice none 0 0)), .pd (.v (.slice none 0 0))]) u) : SX.R V (.e .chart ⟨a, [], [], [], []⟩) u := by
  obtain ⟨us, e, hu⟩ := h
  refine ⟨us, e, ?_⟩
  cases hu with | cons h0 hu => cases hu with | cons h1 hu => cases hu with | cons h2 hu => cases hu with | cons h3 hu => cases hu with | cons h4 hu =>
    cases hu
    exact .cons h0 (.cons (nil_reads h1) (.cons (nil_reads h2) (.cons (nil_reads h3) (.cons (nil_reads h4) .nil))))
theorem check_zero (a : Str) : Does Tryz.prog 10 [.agg [.pd (.str a), .pd (.v (.slice none 0 0)), .pd (.v (.slice none 0 0)), .pd (.v (.slice none 0 0)), .pd (.v (.slice none 0 0))]] [] (.x (.i (checkE ⟨a, [], [], [], []⟩))) [] :=
  Does.sub (fun V vs hv => by
    cases hv with | cons h1 hv =>
      cases hv
      exact .cons (zero_reads h1) .nil) (check_spec ⟨a, [], [], [], []⟩ ⟨by simp, by simp⟩)
def eCheck0 : Nat × (List SX → List Chunk → Option (Option Prop × SV × List Chunk)) := (10, fun
  | [.agg [.pd (.str a), .pd (.v (.slice none 0 0)), .pd (.v (.slice none 0 0)), .pd (.v (.slice none 0 0)), .pd (.v (.slice none 0 0))]], [] => some (none, .x (.c (.pd (.int .i64 (checkE ⟨a, [], [], [], []⟩)))), [])
  | _, _ => none)
theorem eCheck0_ok (vs : List SX) (ck : List Chunk) (p : Option Prop) (ret : SV) (ck' : List Chunk) (h : eCheck0.2 vs ck = some (p, ret, ck')) (hp : Holds p) : Does Tryz.prog eCheck0.1 vs ck ret ck' := by
  unfold eCheck0 at h
  simp only at h
  split at h
  · rename_i a
    simp only [Option.some.injEq, Prod.mk.injEq] at h
    obtain ⟨rfl, rfl, rfl⟩ := h
    exact check_zero a
  · simp at h
/-! ### a mark: guards that are literal count as none -/
def eLit : Nat × (List SX → List Chunk → Option (Option Prop × SV × List Chunk)) := (1000000007, fun _ _ => none)
theorem eLit_ok (vs : List SX) (ck : List Chunk) (p : Option Prop) (ret : SV) (ck' : List Chunk) (h : eLit.2 vs ck = some (p, ret, ck')) (_ : Holds p) : Does Tryz.prog eLit.1 vs ck ret ck' := by cases h
/-! ### copies -/
def roomC2 (a : List Str) (b : List Var) (c : List Ev.Stat) (d : List Tran) : Prop := room a.length 16 ∧ (room b.length 64 ∧ (room c.length 96 ∧ room d.length 88))
theorem copied_spec (n : Str) (a : List Str) (b : List Var) (c : List Ev.Stat) (d : List Tran) (h : roomC2 a b c d) : Does Tryz.prog 11 [.agg [.pd (.str n), .pd (.lst .str a), .pd (.lst .var b), .pd (.lst .stat c), .pd (.lst .tran d)]] [] (.x (.agg [.pd (.str n), .own 0, .own 1, .own 2, .own 3])) [.own 9 .str a, .own 66 .var b, .own 39 .stat c, .own 42 .tran d] := by
  refine Does.go (cfg := cfg0) cfg0_ok Tryz.func11 (by kernel_rfl) (by kernel_rfl) (t := (.need (room (List.length ([] ++ a)) 16) (.need (room (List.length ([] ++ b)) 64) (.need (room (List.length ([] ++ c)) 96) (.need (room (List.length ([] ++ d)) 88) (.ret (.x (.agg [.pd (.str n), .own 0, .own 1, .own 2, .own 3])) [.own 9 .str ([] ++ a), .own 66 .var ([] ++ b), .own 39 .stat ([] ++ c), .own 42 .tran ([] ++ d)])))))) (by kernel_rfl) fun Γ => ?_
  exact ⟨h.1, h.2.1, h.2.2.1, h.2.2.2, rfl, rfl⟩
def eCopied : Nat × (List SX → List Chunk → Option (Option Prop × SV × List Chunk)) := (11, fun
  | [.agg [.pd (.str n), .pd (.lst .str a), .pd (.lst .var b), .pd (.lst .stat c), .pd (.lst .tran d)]], [] => some (some (roomC2 a b c d), .x (.agg [.pd (.str n), .own 0, .own 1, .own 2, .own 3]), [.own 9 .str a, .own 66 .var b, .own 39 .stat c, .own 42 .tran d])
  | _, _ => none)
theorem eCopied_ok (vs : List SX) (ck : List Chunk) (p : Option Prop) (ret : SV) (ck' : List Chunk) (h : eCopied.2 vs ck = some (p, ret, ck')) (hp : Holds p) : Does Tryz.prog eCopied.1 vs ck ret ck' := by
  unfold eCopied at h
  simp only at h
  split at h
  · rename_i n a b c d
    simp only [Option.some.injEq, Prod.mk.injEq] at h
    obtain ⟨rfl, rfl, rfl⟩ := h
    exact copied_spec n a b c d hp
  · simp at h
/-! ### a chart without parts is out of order -/
theorem check_none : checkE ⟨[99], [], [], [], []⟩ = 9 := by
  have h1 : longM ⟨[99], [], [], [], []⟩ = true := by decide
  have h2 : (!(allN ⟨[99], [], [], [], []⟩ [] []).any fun s : Str => !nameM s) = true := by decide
  have h3 : twiceM ⟨[99], [], [], [], []⟩ [] [] = true := by
    unfold twiceM
    rw [(once_iff []).2 List.nodup_nil]; rfl
  have h4 : rightT [] = false := by decide
  show q0E _ [] [] [] = 9
  unfold q0E q1E q2E q3E
  rw [h1, h2, h3]
  show andE 0 (andE 0 (andE 0 (andE (mustM (rightT []) 9) _))) = 9
  rw [h4]; rfl
end Go.Proofs.YtcpnicfkpkonkaaGreatDoor
namespace Go.Proofs
open Go.Shelf
def Tryz.lays146_ren : Go.Shelf.Ren := ⟨fun | 146 => 61 | 221 => 122 | 268 => 165 | 138 => 166 | 143 => 167 | 195 => 204 | 197 => 205 | 218 => 206 | 219 => 207 | 260 => 239 | 217 => 240 | 225 => 241 | 224 => 242 | 267 => 243 | 266 => 262 | 314 => 263 | n => n, fun | 9 => 9 | 31 => 22 | 3 => 3 | 4 => 4 | 0 => 0 | 105 => 230 | 21 => 21 | 5 => 5 | 46 => 147 | 119 => 276 | 139 => 279 | 138 => 278 | 146 => 218 | 51 => 206 | n => n, fun | 1 => 0 | 3 => 2 | 4 => 3 | n => n⟩
theorem Tryz.lays146 : Go.Proofs.Lays.n146 Tryz.prog Tryz.lays146_ren := {
  mixed := by kernel_rfl
  f138 := Tryz.func166.trans (congrArg some (by kernel_rfl))
  f143 := Tryz.func167.trans (congrArg some (by kernel_rfl))
  f146 := Tryz.func61.trans (congrArg some (by kernel_rfl))
  f195 := Tryz.func204.trans (congrArg some (by kernel_rfl))
  f197 := Tryz.func205.trans (congrArg some (by kernel_rfl))
  f217 := Tryz.func240.trans (congrArg some (by kernel_rfl))
  f218 := Tryz.func206.trans (congrArg some (by kernel_rfl))
  f219 := Tryz.func207.trans (congrArg some (by kernel_rfl))
  f221 := Tryz.func122.trans (congrArg some (by kernel_rfl))
  f224 := Tryz.func242.trans (congrArg some (by kernel_rfl))
  f225 := Tryz.func241.trans (congrArg some (by kernel_rfl))
  f260 := Tryz.func239.trans (congrArg some (by kernel_rfl))
  f266 := Tryz.func262.trans (congrArg some (by kernel_rfl))
  f267 := Tryz.func243.trans (congrArg some (by kernel_rfl))
  f268 := Tryz.func165.trans (congrArg some (by kernel_rfl))
  f314 := Tryz.func263.trans (congrArg some (by kernel_rfl))
  t0 := Tryz.underlying0
  a0 := Tryz.isAgg0
  z0 := Tryz.sizeOf0
  v0 := Tryz.zeroValue0
  t3 := Tryz.underlying3
  a3 := Tryz.isAgg3
  z3 := Tryz.sizeOf3
  v3 := Tryz.zeroValue3
  t4 := Tryz.underlying4
  a4 := Tryz.isAgg4
  z4 := Tryz.sizeOf4
  v4 := Tryz.zeroValue4
  t5 := Tryz.underlying5
  a5 := Tryz.isAgg5
  z5 := Tryz.sizeOf5
  v5 := Tryz.zeroValue5
  t9 := Tryz.underlying9
  a9 := Tryz.isAgg9
  z9 := Tryz.sizeOf9
  v9 := Tryz.zeroValue9
  t21 := Tryz.underlying21
  a21 := Tryz.isAgg21
  z21 := Tryz.sizeOf21
  v21 := Tryz.zeroValue21
  t31 := Tryz.underlying22
  a31 := Tryz.isAgg22
  z31 := Tryz.sizeOf22
  v31 := Tryz.zeroValue22
  t46 := Tryz.underlying147
  a46 := Tryz.isAgg147
  z46 := Tryz.sizeOf147
  v46 := Tryz.zeroValue147
  t51 := Tryz.underlying206
  a51 := Tryz.isAgg206
  z51 := Tryz.sizeOf206
  v51 := Tryz.zeroValue206
  t105 := Tryz.underlying230
  a105 := Tryz.isAgg230
  z105 := Tryz.sizeOf230
  v105 := Tryz.zeroValue230
  t119 := Tryz.underlying276
  a119 := Tryz.isAgg276
  z119 := Tryz.sizeOf276
  t138 := Tryz.underlying278
  a138 := Tryz.isAgg278
  z138 := Tryz.sizeOf278
  v138 := Tryz.zeroValue278
  t139 := Tryz.underlying279
  a139 := Tryz.isAgg279
  z139 := Tryz.sizeOf279
  v139 := Tryz.zeroValue279
  t146 := Tryz.underlying218
  a146 := Tryz.isAgg218
  z146 := Tryz.sizeOf218
  v146 := Tryz.zeroValue218
  g1 := by kernel_rfl
  g3 := by kernel_rfl
  g4 := by kernel_rfl }
open Go.RowKit Go.Lib in
theorem Tryz.strings_Split (s sep : ByteArray) (m : Int) (w : World) (hs : s.size < 4294967281) (hm : w.cell? ⟨0, 0, none⟩ = some (.int .i64 m)) (h1 : 1 ≤ sep.size) :
    Calls Tryz.prog 61 #[.string s, .string sep] w fun e w' =>
      e = .returned (.slice (some ⟨w.heap.size, 0, none⟩) (Lib.countB s sep + 1) (Lib.countB s sep + 1)) ∧ w' = w.alloc (.cells ((Lib.splitB sep 0 (Lib.countB s sep) s).map Value.string).toArray 9) := Any.strings_Split Tryz.lays146 (by kernel_rfl) s sep m w hs hm h1
end Go.Proofs
namespace Go.Proofs.YtcpnicfkpkonkaaGreatDoor
open Go Go.Ev Go.RowKit
set_option maxRecDepth 100000
theorem occ_one (s : Str) (b : UInt8) (j : Nat) : Lib.occAt s [b] j = true ↔ s[j]? = some b := by
  have h : s[j]? = (s.drop j).head? := by rw [List.head?_drop]
  rw [h]
  unfold Lib.occAt
  cases hd : s.drop j with
  | nil => simp [List.isPrefixOf]
  | cons x r => simp [List.isPrefixOf]; exact eq_comm
theorem index_byte (s : Str) (b : UInt8) : (Lib.index s [b] = -1 ∧ b ∉ s) ∨ ∃ a r, s = a ++ b :: r ∧ b ∉ a ∧ Lib.index s [b] = (a.length : Int) := by
  rcases Lib.index_spec s [b] with ⟨h1, h2⟩ | ⟨i, h1, h2, h3, h4⟩
  · refine .inl ⟨h1, fun hm => ?_⟩
    obtain ⟨j, hj, e⟩ := List.mem_iff_getElem.1 hm
    have := h2 j (by omega)
    rw [(occ_one s b j).2 (by rw [List.getElem?_eq_getElem hj, e])] at this
    cases this
  · have h5 := (occ_one s b i).1 h3
    obtain ⟨hi, h6⟩ := List.getElem?_eq_some_iff.1 h5
    refine .inr ⟨s.take i, s.drop (i + 1), ?_, fun hm => ?_, by rw [h1, List.length_take]; omega⟩
    · rw [← h6, ← List.drop_eq_getElem_cons hi, List.take_append_drop]
    · obtain ⟨j, hj, e⟩ := List.mem_iff_getElem.1 hm
      rw [List.length_take] at hj
      have h7 := h4 j (by omega)
      rw [(occ_one s b j).2 (by rw [List.getElem?_eq_getElem (by omega)]; rw [List.getElem_take] at e; rw [e])] at h7
      cases h7
def cutN : Str → Str → List Str
  | cur, [] => [cur]
  | cur, c :: r => bif c == 10 then cur :: cutN [] r else cutN (cur ++ [c]) r
theorem cutN_none : ∀ (s cur : Str), (10 : UInt8) ∉ s → cutN cur s = [cur ++ s]
  | [], cur, _ => by simp [cutN]
  | c :: r, cur, h => by
    simp only [List.mem_cons, not_or] at h
    have hc : (c == 10) = false := by simpa using fun e => h.1 e.symm
    rw [cutN, hc, cond_false, cutN_none r _ h.2]; simp
theorem cutN_app : ∀ (a cur b : Str), (10 : UInt8) ∉ a → cutN cur (a ++ 10 :: b) = (cur ++ a) :: cutN [] b
  | [], cur, b, _ => by simp [cutN]
  | c :: r, cur, b, h => by
    simp only [List.mem_cons, not_or] at h
    have hc : (c == 10) = false := by simpa using fun e => h.1 e.symm
    rw [List.cons_append, cutN, hc, cond_false, cutN_app r _ b h.2]; simp
theorem splitK_lines : ∀ (k : Nat) (s : Str), Lib.count s [10] = k → Lib.splitK [10] 0 k s = cutN [] s
  | 0, s, h => by
    rw [Lib.count_one] at h
    rw [cutN_none s [] (List.count_eq_zero.1 h)]; rfl
  | k + 1, s, h => by
    rcases index_byte s 10 with ⟨h1, _⟩ | ⟨a, r, rfl, h2, h3⟩
    · rw [Lib.count_miss h1] at h; omega
    · have h4 := Lib.count_hit (by simp) h3
      have e : (a ++ 10 :: r).drop (a.length + 1) = r := by
        rw [← List.drop_drop, List.drop_left]; rfl
      rw [show ([10] : Str).length = 1 from rfl, e] at h4
      rw [Lib.splitK, if_neg (by rw [h3]; simp), h3, Int.toNat_natCast, show ([10] : Str).length = 1 from rfl, e, Nat.add_zero, List.take_left, cutN_app a [] r h2, splitK_lines k r (by omega)]; rfl
theorem split_lines (s : Str) : (Lib.splitB ⟨#[10]⟩ 0 (Lib.countB (bs s) ⟨#[10]⟩) (bs s)).map (·.data.toList) = cutN [] s := by
  rw [Lib.splitB_data]
  have e : (bs s).data.toList = s := bs_toList s
  rw [e]
  exact splitK_lines _ s (by show Lib.count s [10] = Lib.count (bs s).data.toList _; rw [e])
theorem cutN_len : ∀ (s cur : Str), (cutN cur s).length = s.countP (· == 10) + 1
  | [], cur => rfl
  | c :: r, cur => by
    rw [cutN, List.countP_cons]
    cases h : c == 10
    · rw [cond_false, cutN_len r]; simp
    · rw [cond_true, List.length_cons, cutN_len r]; simp
theorem cutN_length (s : Str) : (cutN [] s).length ≤ s.length + 1 := by
  rw [cutN_len]; have := List.countP_le_length (p := (· == (10 : UInt8))) (l := s); omega
theorem maxlen_cell {V : Vn} {w : World} (hT : Tabs Tryz.prog V.H) (hi : HIn V.H w) : ∃ m, w.cell? ⟨0, 0, none⟩ = some (.int .i64 m) := by
  obtain ⟨g, cs, e, fr, m, h1, h2, h3⟩ := hT.2.2.2 (by kernel_rfl)
  have e1 : g = 0 := (Option.some.inj ((show Tryz.prog.globalNamed "internal/bytealg.MaxLen" = some 0 by kernel_rfl).symm.trans h1)).symm
  subst e1
  have h4 := hi _ _ h2
  exact ⟨m, by simp only [World.cell?, h4]; exact h3⟩
theorem two_strs {V : Vn} {a b : Str} {vs : List Value} (hv : All2 (SX.R V) [SX.s a, SX.s b] vs) : vs = [.string (bs a), .string (bs b)] := by
  cases hv with
  | cons a1 hv => cases hv with
    | cons a2 hv =>
      cases hv
      have a1' : PR V.H (.str a) _ := a1
      have a2' : PR V.H (.str b) _ := a2
      cases a1'; cases a2'
      rfl
theorem str_flat {H : Mem} : ∀ (l : List Str), All2 (PR H) (l.flatMap ETy.str.enc) (l.map fun s => Value.string (bs s))
  | [] => .nil
  | s :: r => .cons (.str s) (str_flat r)
theorem splitN_spec (s : Str) (hs : s.length < 4294967281) : Does Tryz.prog 61 [.s s, .s [10]] [] (.x (.c (.own 0))) [.own 9 .str (cutN [] s)] := by
  intro w V vs hw hT hv
  rw [two_strs hv]
  obtain ⟨m, hm⟩ := maxlen_cell hT hw.imm
  have hp := split_lines s
  have hl := congrArg List.length hp
  rw [List.length_map] at hl
  have hc : Lib.countB (bs s) ⟨#[10]⟩ + 1 = (cutN [] s).length := by
    rw [← hl]; exact (Lib.splitB_all ⟨#[10]⟩ (by decide) 0 _ (bs s) rfl).symm
  refine (Tryz.strings_Split (bs s) (bs [10]) m w (by rw [bs_size]; exact hs) hm (by decide)).mono fun e w' ⟨he, hw'⟩ => ?_
  subst he; subst hw'
  have hcells : (Lib.splitB (bs [10]) 0 (Lib.countB (bs s) (bs [10])) (bs s)).map Value.string = (cutN [] s).map fun s => Value.string (bs s) := by
    rw [← hp, List.map_map]
    exact List.map_congr_left fun x _ => by simp [bs_eta]
  have hc' : Lib.countB (bs s) (bs [10]) + 1 = (cutN [] s).length := hc
  rw [hcells, hc']
  have hlen := cutN_length s
  obtain ⟨V2, hag, _, _, e2, hw2⟩ := hw.regrow (ck := []) rfl (Nat.zero_le _) none (c := .own 9 .str (cutN [] s)) (v' := .slice (some ⟨w.heap.size, 0, none⟩) (cutN [] s).length (cutN [] s).length) (s' := w.heap.size) (w' := w.alloc (.cells ((cutN [] s).map fun s => Value.string (bs s)).toArray 9)) (row := none) (by simp) (World.grownBy_alloc w _ none) (fun V' hag hH f1 f2 => by
    have f3 : V'.ov 0 = .slice (some ⟨w.heap.size, 0, none⟩) (cutN [] s).length (cutN [] s).length := f2
    have f4 : V'.σ 0 = w.heap.size := f1
    refine ⟨⟨(cutN [] s).map fun s => Value.string (bs s), ?_, str_flat _, fun b hb => ?_⟩, fun b hb => ?_⟩
    · rw [f2]
      have := World.ownsRow_lit (base := 0) (size := 1) (e := 9) w ((cutN [] s).map fun s => Value.string (bs s)).toArray (cutN [] s).length (Nat.zero_le _) (by unfold maxLen; omega) (by simp)
      exact this
    · rw [f2] at hb; simp only [Value.ownBlock, Option.some.injEq] at hb; rw [f1, ← hb]
    · right; simp only [Chunk.blk] at hb; rw [f2] at hb; simp only [Value.ownBlock, Option.some.injEq] at hb; omega)
  exact ⟨_, V2, rfl, e2.symm, hw2⟩
def eSplitN : Nat × (List SX → List Chunk → Option (Option Prop × SV × List Chunk)) := (61, fun
  | [.c (.pd (.str s)), .c (.pd (.str [10]))], [] => some (some (s.length < 4294967281), .x (.c (.own 0)), [.own 9 .str (cutN [] s)])
  | _, _ => none)
theorem eSplitN_ok (vs : List SX) (ck : List Chunk) (p : Option Prop) (ret : SV) (ck' : List Chunk) (h : eSplitN.2 vs ck = some (p, ret, ck')) (hp : Holds p) : Does Tryz.prog eSplitN.1 vs ck ret ck' := by
  unfold eSplitN at h
  simp only at h
  split at h
  · rename_i s
    simp only [Option.some.injEq, Prod.mk.injEq] at h
    obtain ⟨rfl, rfl, rfl⟩ := h
    exact splitN_spec s hp
  · simp at h
end Go.Proofs.YtcpnicfkpkonkaaGreatDoor

/- Contracts: valid: a state's blocks, an event, a transition. Conditions: sizes. The library's contracts of the shelf, laid at this dump by the kit's tools. Conditions: each one's own. Contracts: slices.Clone, Sort and Compact on texts. Conditions: sizes. -/
import Derived.Test.YtcpnicfkpkonkaaGreatDoorTh
import Derived.Shelf.Lays
import Derived.Shelf.Sort.Plain
import Derived.Shelf.Slices.In.SortNone
import Derived.Shelf.Slices.CompactS
import Derived.Test.YtcpnicfkpkonkaaGreatDoorProg
namespace Go.Proofs.YtcpnicfkpkonkaaGreatDoor
open Go Go.Ev
set_option maxRecDepth 100000
def cfgBks : Cfg := ⟨tys0, [eVbl, eVpast]⟩
theorem cfgBks_ok : TabOk Tryz.prog cfgBks.tab := (TabOk.cons eVbl_ok (TabOk.cons eVpast_ok TabOk.nil))
def blocksE (c : Chart) (s : Ev.Stat) : Int :=
  if (pastM s.kind && decide (IntKind.wrap .i64 ((s.entry.length : Int) + (s.leave.length : Int)) > 0) || s.kind == 4 && decide ((s.leave.length : Int) > 0)) = true then 1
  else if (blockE c.events c.vars s.entry != 0) = true then blockE c.events c.vars s.entry else blockE c.events c.vars s.leave
theorem vbks_nat (c : Chart) (i : Nat) (hi : i < c.states.length) : Does Tryz.prog 39 [.e .chart c, .i (i : Int)] [] (.x (.i (blocksE c (ETy.get .stat c.states i)))) [] := by
  refine Does.go (cfg := cfgBks) cfgBks_ok Tryz.func39 (by kernel_rfl) (by kernel_rfl) (t := (.need ((0 : Int) ≤ (↑i : Int) ∧ (↑i : Int) < (↑(List.length (Chart.states c)) : Int)) (.ite (pastM (Stat.kind (ETy.get .stat (Chart.states c) i)) && decide (IntKind.wrap .i64 ((↑(List.length (Stat.entry (ETy.get .stat (Chart.states c) i))) : Int) + (↑(List.length (Stat.leave (ETy.get .stat (Chart.states c) i))) : Int)) > (0 : Int)) || Stat.kind (ETy.get .stat (Chart.states c) i) == (4 : Int) && decide ((↑(List.length (Stat.leave (ETy.get .stat (Chart.states c) i))) : Int) > (0 : Int))) (.ret (.i (1 : Int)) []) (.ite (blockE (Chart.events c) (Chart.vars c) (Stat.entry (ETy.get .stat (Chart.states c) i)) != (0 : Int)) (.ret (.i (blockE (Chart.events c) (Chart.vars c) (Stat.entry (ETy.get .stat (Chart.states c) i)))) []) (.ret (.i (blockE (Chart.events c) (Chart.vars c) (Stat.leave (ETy.get .stat (Chart.states c) i)))) []))))) (by kernel_rfl) fun Γ => ?_
  refine ⟨⟨by omega, by omega⟩, ?_⟩
  generalize ETy.get .stat c.states i = s
  refine ⟨fun h => ?_, fun h => ⟨fun h2 => ?_, fun h2 => ?_⟩⟩
  · unfold blocksE; rw [if_pos h]; exact ⟨rfl, rfl⟩
  · unfold blocksE; rw [if_neg (by rw [h]; decide), if_pos h2]; exact ⟨rfl, rfl⟩
  · unfold blocksE; rw [if_neg (by rw [h]; decide), if_neg (by rw [h2]; decide)]; exact ⟨rfl, rfl⟩
theorem vbks_spec (c : Chart) (i : Int) (h : 0 ≤ i ∧ i < (c.states.length : Int)) : Does Tryz.prog 39 [.e .chart c, .i i] [] (.x (.i (blocksE c (ETy.get .stat c.states i.toNat)))) [] := by
  obtain ⟨k, rfl⟩ := Int.eq_ofNat_of_zero_le h.1
  rw [Int.toNat_natCast]
  exact vbks_nat c k (by omega)
def eVbks : Nat × (List SX → List Chunk → Option (Option Prop × SV × List Chunk)) := (39, fun
  | [.agg [.pd (.str a), .pd (.lst .str b), .pd (.lst .var c), .pd (.lst .stat d), .pd (.lst .tran e)], .c (.pd (.int .i64 i))], [] => some (some (0 ≤ i ∧ i < (d.length : Int)), .x (.c (.pd (.int .i64 (blocksE ⟨a, b, c, d, e⟩ (ETy.get .stat d i.toNat))))), [])
  | _, _ => none)
theorem eVbks_ok (vs : List SX) (ck : List Chunk) (p : Option Prop) (ret : SV) (ck' : List Chunk) (h : eVbks.2 vs ck = some (p, ret, ck')) (hp : Holds p) : Does Tryz.prog eVbks.1 vs ck ret ck' := by
  unfold eVbks at h
  simp only at h
  split at h
  · rename_i a b c d e i
    simp only [Option.some.injEq, Prod.mk.injEq] at h
    obtain ⟨rfl, rfl, rfl⟩ := h
    exact vbks_spec ⟨a, b, c, d, e⟩ i hp
  · simp at h
def cfgEv : Cfg := ⟨tys0, [eSc, ePlace, eCut]⟩
theorem cfgEv_ok : TabOk Tryz.prog cfgEv.tab := (TabOk.cons eSc_ok (TabOk.cons ePlace_ok (TabOk.cons eCut_ok TabOk.nil)))
def errorT : Str := [101, 114, 114, 111, 114]
def doneT : Str := [100, 111, 110, 101, 46]
def eventE (c : Chart) (s : Str) : Bool :=
  if (s == [] || s == errorT || c.events.any (fun x => s == x)) = true then true
  else hasP s doneT && decide (placeM c.states (cutP s doneT) ≥ 0) && ((ETy.get .stat c.states (placeM c.states (cutP s doneT)).toNat).kind == 2 || (ETy.get .stat c.states (placeM c.states (cutP s doneT)).toNat).kind == 3)
theorem and_ge {b : Bool} {i : Int} (h : (b && decide (i ≥ 0)) = true) : 0 ≤ i := by
  rw [Bool.and_eq_true] at h; exact of_decide_eq_true h.2
theorem place_lt {l : List Ev.Stat} {n : Str} (h : 0 ≤ placeM l n) : 0 ≤ placeM l n ∧ placeM l n < (l.length : Int) := by
  rcases place_in l n with e | e
  · omega
  · exact e
theorem vevent_spec (c : Chart) (s : Str) : Does Tryz.prog 79 [.e .chart c, .s s] [] (.x (.b (eventE c s))) [] := by
  refine Does.go (cfg := cfgEv) cfgEv_ok Tryz.func79 (by kernel_rfl) (by kernel_rfl) (t := (.ite (s == [] || s == [(101 : UInt8), 114, 114, 111, 114] || List.any (Chart.events c) fun x => s == x) (.ret (.p (.bool true)) []) (.need ((hasP s [(100 : UInt8), 111, 110, 101, 46] && decide (placeM (Chart.states c) (cutP s [(100 : UInt8), 111, 110, 101, 46]) ≥ (0 : Int))) = true → (0 : Int) ≤ placeM (Chart.states c) (cutP s [(100 : UInt8), 111, 110, 101, 46]) ∧ placeM (Chart.states c) (cutP s [(100 : UInt8), 111, 110, 101, 46]) < (↑(List.length (Chart.states c)) : Int)) (.need ((hasP s [(100 : UInt8), 111, 110, 101, 46] && decide (placeM (Chart.states c) (cutP s [(100 : UInt8), 111, 110, 101, 46]) ≥ (0 : Int))) = true ∧ (Stat.kind (ETy.get .stat (Chart.states c) (Int.toNat (placeM (Chart.states c) (cutP s [(100 : UInt8), 111, 110, 101, 46])))) == (2 : Int)) = false → (0 : Int) ≤ placeM (Chart.states c) (cutP s [(100 : UInt8), 111, 110, 101, 46]) ∧ placeM (Chart.states c) (cutP s [(100 : UInt8), 111, 110, 101, 46]) < (↑(List.length (Chart.states c)) : Int)) (.ret (.p (.bool (hasP s [(100 : UInt8), 111, 110, 101, 46] && decide (placeM (Chart.states c) (cutP s [(100 : UInt8), 111, 110, 101, 46]) ≥ (0 : Int)) && (Stat.kind (ETy.get .stat (Chart.states c) (Int.toNat (placeM (Chart.states c) (cutP s [(100 : UInt8), 111, 110, 101, 46])))) == (2 : Int) || Stat.kind (ETy.get .stat (Chart.states c) (Int.toNat (placeM (Chart.states c) (cutP s [(100 : UInt8), 111, 110, 101, 46])))) == (3 : Int))))) []))))) (by kernel_rfl) fun Γ => ?_
  refine ⟨fun h => ?_, fun h => ⟨fun h1 => place_lt (and_ge h1), fun h1 => place_lt (and_ge h1.1), ?_⟩⟩
  · have h' : (s == [] || s == errorT || c.events.any fun x => s == x) = true := h
    unfold eventE; rw [if_pos h']; exact ⟨rfl, rfl⟩
  · have h' : (s == [] || s == errorT || c.events.any fun x => s == x) = false := h
    unfold eventE; rw [if_neg (by rw [h']; decide)]; exact ⟨rfl, rfl⟩
def eVev : Nat × (List SX → List Chunk → Option (Option Prop × SV × List Chunk)) := (79, fun
  | [.agg [.pd (.str a), .pd (.lst .str b), .pd (.lst .var c), .pd (.lst .stat d), .pd (.lst .tran e)], .c (.pd (.str s))], [] => some (none, .x (.c (.pd (.bool (eventE ⟨a, b, c, d, e⟩ s)))), [])
  | _, _ => none)
theorem eVev_ok (vs : List SX) (ck : List Chunk) (p : Option Prop) (ret : SV) (ck' : List Chunk) (h : eVev.2 vs ck = some (p, ret, ck')) (hp : Holds p) : Does Tryz.prog eVev.1 vs ck ret ck' := by
  unfold eVev at h
  simp only at h
  split at h
  · rename_i a b c d e s
    simp only [Option.some.injEq, Prod.mk.injEq] at h
    obtain ⟨rfl, rfl, rfl⟩ := h
    exact vevent_spec ⟨a, b, c, d, e⟩ s
  · simp at h
def cfgTr : Cfg := ⟨tys0, [eVbl, ePlace, eDomain, eOf, eVev]⟩
theorem cfgTr_ok : TabOk Tryz.prog cfgTr.tab := (TabOk.cons eVbl_ok (TabOk.cons ePlace_ok (TabOk.cons eDomain_ok (TabOk.cons eOf_ok (TabOk.cons eVev_ok TabOk.nil)))))
def afterE (c : Chart) (t : Tran) : Int :=
  if (!(t.dst == [])) = true then (if decide (placeM c.states t.dst < 0) = true then 2
    else if decide (domM c.states t.src (placeM c.states t.dst) < 0) = true then 9 else blockE c.events c.vars t.acts)
  else blockE c.events c.vars t.acts
def badsrcE (c : Chart) (i : Nat) (t : Tran) : Bool :=
  decide (t.src < 0) || decide (t.src ≥ (c.states.length : Int)) || decide ((i : Int) > 0) && decide (t.src < (ETy.get .tran c.trans (IntKind.wrap .i64 ((i : Int) - 1)).toNat).src) || decide ((ETy.get .stat c.states t.src.toNat).kind > 3)
def transE (c : Chart) (i : Nat) (real : List Str) (t : Tran) : Int :=
  if badsrcE c i t = true then 1
  else if (!eventE c t.event) = true then 2
  else if decide ((t.guard.length : Int) > 0) = true then
    (if ((kindsM t.guard c.vars real).2 != 0) = true then (kindsM t.guard c.vars real).2
     else if ((kindsM t.guard c.vars real).1 != 2) = true then 8 else afterE c t)
  else afterE c t
theorem vtr_nat (c : Chart) (i : Nat) (l : List Str) (hi : i < c.trans.length) (hl : c.states.length ≤ maxLen) (ht : c.trans.length ≤ maxLen) : Does Tryz.prog 41 [.e .chart c, .i (i : Int), .l .str l] [] (.x (.i (transE c i l (ETy.get .tran c.trans i)))) [] := by
  refine Does.go (cfg := cfgTr) cfgTr_ok Tryz.func41 (by kernel_rfl) (by kernel_rfl) (t := (.need ((0 : Int) ≤ (↑i : Int) ∧ (↑i : Int) < (↑(List.length (Chart.trans c)) : Int)) (.need (Prod.snd (Prod.snd (Prod.snd (14, 30, true, onBy true (decide ((↑i : Int) > (0 : Int))) (some (11, 27, false, onBy false (decide (Tran.src (ETy.get .tran (Chart.trans c) i) < (0 : Int)) || decide (Tran.src (ETy.get .tran (Chart.trans c) i) ≥ (↑(List.length (Chart.states c)) : Int))) none))))) → (0 : Int) ≤ IntKind.wrap .i64 ((↑i : Int) - (1 : Int)) ∧ IntKind.wrap .i64 ((↑i : Int) - (1 : Int)) < (↑(List.length (Chart.trans c)) : Int)) (.need (Prod.snd (Prod.snd (Prod.snd (27, 43, false, onBy false (decide (Tran.src (ETy.get .tran (Chart.trans c) i) < (0 : Int)) || decide (Tran.src (ETy.get .tran (Chart.trans c) i) ≥ (↑(List.length (Chart.states c)) : Int)) || decide ((↑i : Int) > (0 : Int)) && decide (Tran.src (ETy.get .tran (Chart.trans c) i) < Tran.src (ETy.get .tran (Chart.trans c) (Int.toNat (IntKind.wrap .i64 ((↑i : Int) - (1 : Int))))))) none))) → (0 : Int) ≤ Tran.src (ETy.get .tran (Chart.trans c) i) ∧ Tran.src (ETy.get .tran (Chart.trans c) i) < (↑(List.length (Chart.states c)) : Int)) (.ite (decide (Tran.src (ETy.get .tran (Chart.trans c) i) < (0 : Int)) || decide (Tran.src (ETy.get .tran (Chart.trans c) i) ≥ (↑(List.length (Chart.states c)) : Int)) || decide ((↑i : Int) > (0 : Int)) && decide (Tran.src (ETy.get .tran (Chart.trans c) i) < Tran.src (ETy.get .tran (Chart.trans c) (Int.toNat (IntKind.wrap .i64 ((↑i : Int) - (1 : Int)))))) || decide (Stat.kind (ETy.get .stat (Chart.states c) (Int.toNat (Tran.src (ETy.get .tran (Chart.trans c) i)))) > (3 : Int))) (.ret (.i (1 : Int)) []) (.ite (!eventE { name := Chart.name c, events := Chart.events c, vars := Chart.vars c, states := Chart.states c, trans := Chart.trans c } (Tran.event (ETy.get .tran (Chart.trans c) i))) (.ret (.i (2 : Int)) []) (.ite (decide ((↑(List.length (Tran.guard (ETy.get .tran (Chart.trans c) i))) : Int) > (0 : Int))) (.ite (Prod.snd (kindsM (Tran.guard (ETy.get .tran (Chart.trans c) i)) (Chart.vars c) l) != (0 : Int)) (.ret (.i (Prod.snd (kindsM (Tran.guard (ETy.get .tran (Chart.trans c) i)) (Chart.vars c) l))) []) (.ite (Prod.fst (kindsM (Tran.guard (ETy.get .tran (Chart.trans c) i)) (Chart.vars c) l) != (2 : Int)) (.ret (.i (8 : Int)) []) (.ite (!Tran.dst (ETy.get .tran (Chart.trans c) i) == []) (.ite (decide (placeM (Chart.states c) (Tran.dst (ETy.get .tran (Chart.trans c) i)) < (0 : Int))) (.ret (.i (2 : Int)) []) (.need (List.length (Chart.states c) ≤ maxLen) (.ite (decide (domM (Chart.states c) (Tran.src (ETy.get .tran (Chart.trans c) i)) (placeM (Chart.states c) (Tran.dst (ETy.get .tran (Chart.trans c) i))) < (0 : Int))) (.ret (.i (9 : Int)) []) (.ret (.i (blockE (Chart.events c) (Chart.vars c) (Tran.acts (ETy.get .tran (Chart.trans c) i)))) [])))) (.ret (.i (blockE (Chart.events c) (Chart.vars c) (Tran.acts (ETy.get .tran (Chart.trans c) i)))) [])))) (.ite (!Tran.dst (ETy.get .tran (Chart.trans c) i) == []) (.ite (decide (placeM (Chart.states c) (Tran.dst (ETy.get .tran (Chart.trans c) i)) < (0 : Int))) (.ret (.i (2 : Int)) []) (.need (List.length (Chart.states c) ≤ maxLen) (.ite (decide (domM (Chart.states c) (Tran.src (ETy.get .tran (Chart.trans c) i)) (placeM (Chart.states c) (Tran.dst (ETy.get .tran (Chart.trans c) i))) < (0 : Int))) (.ret (.i (9 : Int)) []) (.ret (.i (blockE (Chart.events c) (Chart.vars c) (Tran.acts (ETy.get .tran (Chart.trans c) i)))) [])))) (.ret (.i (blockE (Chart.events c) (Chart.vars c) (Tran.acts (ETy.get .tran (Chart.trans c) i)))) []))))))))) (by kernel_rfl) fun Γ => ?_
  refine ⟨⟨by omega, by omega⟩, fun h => ?_, ?_⟩
  · have h1 : decide ((i : Int) > 0) = true := h.2
    have := of_decide_eq_true h1
    have hm : maxLen ≤ 9223372036854775807 := by decide
    rw [wrapI (by omega) (by omega)]; omega
  generalize ETy.get .tran c.trans i = t
  have no : ∀ {b : Bool}, b = false → ¬ b = true := fun h e => by rw [h] at e; cases e
  refine ⟨fun h => ?_, fun h1 => ?_, fun h1 => ⟨fun h2 => ?_, fun h2 => ⟨fun h3 => ⟨fun h4 => ?_, fun h4 => ⟨fun h5 => ?_, fun h5 => ⟨fun h6 => ⟨fun h7 => ?_, fun h7 => ⟨hl, fun h8 => ?_, fun h8 => ?_⟩⟩, fun h6 => ?_⟩⟩⟩, fun h3 => ⟨fun h6 => ⟨fun h7 => ?_, fun h7 => ⟨hl, fun h8 => ?_, fun h8 => ?_⟩⟩, fun h6 => ?_⟩⟩⟩⟩
  · have h1 : (decide (t.src < 0) || decide (t.src ≥ (c.states.length : Int)) || decide ((i : Int) > 0) && decide (t.src < (ETy.get .tran c.trans (IntKind.wrap .i64 ((i : Int) - 1)).toNat).src)) = false := h
    rw [Bool.or_eq_false_iff, Bool.or_eq_false_iff] at h1
    have := of_decide_eq_false h1.1.1
    have := of_decide_eq_false h1.1.2
    omega
  · have hb : badsrcE c i t = true := h1
    unfold transE; rw [if_pos hb]; exact ⟨rfl, rfl⟩
  all_goals
    have hb : badsrcE c i t = false := h1
    unfold transE; rw [if_neg (no hb)]
  · rw [if_pos h2]; exact ⟨rfl, rfl⟩
  all_goals rw [if_neg (no h2)]
  · rw [if_pos h3, if_pos h4]; exact ⟨rfl, rfl⟩
  · rw [if_pos h3, if_neg (no h4), if_pos h5]; exact ⟨rfl, rfl⟩
  · rw [if_pos h3, if_neg (no h4), if_neg (no h5)]; unfold afterE; rw [if_pos h6, if_pos h7]; exact ⟨rfl, rfl⟩
  · rw [if_pos h3, if_neg (no h4), if_neg (no h5)]; unfold afterE; rw [if_pos h6, if_neg (no h7), if_pos h8]; exact ⟨rfl, rfl⟩
  · rw [if_pos h3, if_neg (no h4), if_neg (no h5)]; unfold afterE; rw [if_pos h6, if_neg (no h7), if_neg (no h8)]; exact ⟨rfl, rfl⟩
  · rw [if_pos h3, if_neg (no h4), if_neg (no h5)]; unfold afterE; rw [if_neg (no h6)]; exact ⟨rfl, rfl⟩
  · rw [if_neg (no h3)]; unfold afterE; rw [if_pos h6, if_pos h7]; exact ⟨rfl, rfl⟩
  · rw [if_neg (no h3)]; unfold afterE; rw [if_pos h6, if_neg (no h7), if_pos h8]; exact ⟨rfl, rfl⟩
  · rw [if_neg (no h3)]; unfold afterE; rw [if_pos h6, if_neg (no h7), if_neg (no h8)]; exact ⟨rfl, rfl⟩
  · rw [if_neg (no h3)]; unfold afterE; rw [if_neg (no h6)]; exact ⟨rfl, rfl⟩
theorem vtr_spec (c : Chart) (i : Int) (l : List Str) (h : 0 ≤ i ∧ i < (c.trans.length : Int) ∧ c.states.length ≤ maxLen ∧ c.trans.length ≤ maxLen) : Does Tryz.prog 41 [.e .chart c, .i i, .l .str l] [] (.x (.i (transE c i.toNat l (ETy.get .tran c.trans i.toNat)))) [] := by
  obtain ⟨k, rfl⟩ := Int.eq_ofNat_of_zero_le h.1
  rw [Int.toNat_natCast]
  exact vtr_nat c k l (by omega) h.2.2.1 h.2.2.2
def eVtr : Nat × (List SX → List Chunk → Option (Option Prop × SV × List Chunk)) := (41, fun
  | [.agg [.pd (.str a), .pd (.lst .str b), .pd (.lst .var c), .pd (.lst .stat d), .pd (.lst .tran e)], .c (.pd (.int .i64 i)), .c (.pd (.lst .str l))], [] => some (some (0 ≤ i ∧ i < (e.length : Int) ∧ d.length ≤ maxLen ∧ e.length ≤ maxLen), .x (.c (.pd (.int .i64 (transE ⟨a, b, c, d, e⟩ i.toNat l (ETy.get .tran e i.toNat))))), [])
  | _, _ => none)
theorem eVtr_ok (vs : List SX) (ck : List Chunk) (p : Option Prop) (ret : SV) (ck' : List Chunk) (h : eVtr.2 vs ck = some (p, ret, ck')) (hp : Holds p) : Does Tryz.prog eVtr.1 vs ck ret ck' := by
  unfold eVtr at h
  simp only at h
  split at h
  · rename_i a b c d e i l
    simp only [Option.some.injEq, Prod.mk.injEq] at h
    obtain ⟨rfl, rfl, rfl⟩ := h
    exact vtr_spec ⟨a, b, c, d, e⟩ i l hp
  · simp at h
end Go.Proofs.YtcpnicfkpkonkaaGreatDoor
namespace Go.Proofs
open Go.Shelf
def Tryz.lays190_ren : Go.Shelf.Ren := ⟨fun | 190 => 70 | 125 => 125 | 258 => 124 | 128 => 178 | 129 => 179 | 302 => 169 | 303 => 170 | 304 => 171 | 305 => 172 | 306 => 173 | 307 => 174 | 308 => 175 | 309 => 176 | 310 => 177 | 333 => 208 | 329 => 209 | 330 => 210 | 334 => 211 | 335 => 212 | 336 => 213 | 344 => 244 | n => n, fun | 31 => 22 | 9 => 9 | 3 => 3 | 46 => 147 | 0 => 0 | 51 => 206 | 53 => 208 | 4 => 4 | 183 => 199 | 182 => 198 | 131 => 203 | 5 => 5 | 218 => 233 | 222 => 237 | 228 => 260 | 229 => 124 | n => n, fun | n => n⟩
theorem Tryz.lays190 : Go.Proofs.Lays.n190 Tryz.prog Tryz.lays190_ren := {
  mixed := by kernel_rfl
  f125 := Tryz.func125.trans (congrArg some (by kernel_rfl))
  f128 := Tryz.func178.trans (congrArg some (by kernel_rfl))
  f129 := Tryz.func179.trans (congrArg some (by kernel_rfl))
  f190 := Tryz.func70.trans (congrArg some (by kernel_rfl))
  f258 := Tryz.func124.trans (congrArg some (by kernel_rfl))
  f302 := Tryz.func169.trans (congrArg some (by kernel_rfl))
  f303 := Tryz.func170.trans (congrArg some (by kernel_rfl))
  f304 := Tryz.func171.trans (congrArg some (by kernel_rfl))
  f305 := Tryz.func172.trans (congrArg some (by kernel_rfl))
  f306 := Tryz.func173.trans (congrArg some (by kernel_rfl))
  f307 := Tryz.func174.trans (congrArg some (by kernel_rfl))
  f308 := Tryz.func175.trans (congrArg some (by kernel_rfl))
  f309 := Tryz.func176.trans (congrArg some (by kernel_rfl))
  f310 := Tryz.func177.trans (congrArg some (by kernel_rfl))
  f329 := Tryz.func209.trans (congrArg some (by kernel_rfl))
  f330 := Tryz.func210.trans (congrArg some (by kernel_rfl))
  f333 := Tryz.func208.trans (congrArg some (by kernel_rfl))
  f334 := Tryz.func211.trans (congrArg some (by kernel_rfl))
  f335 := Tryz.func212.trans (congrArg some (by kernel_rfl))
  f336 := Tryz.func213.trans (congrArg some (by kernel_rfl))
  f344 := Tryz.func244.trans (congrArg some (by kernel_rfl))
  t0 := Tryz.underlying0
  a0 := Tryz.isAgg0
  z0 := Tryz.sizeOf0
  v0 := Tryz.zeroValue0
  t3 := Tryz.underlying3
  a3 := Tryz.isAgg3
  z3 := Tryz.sizeOf3
  v3 := Tryz.zeroValue3
  t4 := Tryz.underlying4
  a4 := Tryz.isAgg4
  z4 := Tryz.sizeOf4
  v4 := Tryz.zeroValue4
  t5 := Tryz.underlying5
  a5 := Tryz.isAgg5
  z5 := Tryz.sizeOf5
  v5 := Tryz.zeroValue5
  t9 := Tryz.underlying9
  a9 := Tryz.isAgg9
  z9 := Tryz.sizeOf9
  v9 := Tryz.zeroValue9
  t31 := Tryz.underlying22
  a31 := Tryz.isAgg22
  z31 := Tryz.sizeOf22
  v31 := Tryz.zeroValue22
  t46 := Tryz.underlying147
  a46 := Tryz.isAgg147
  z46 := Tryz.sizeOf147
  v46 := Tryz.zeroValue147
  t51 := Tryz.underlying206
  a51 := Tryz.isAgg206
  z51 := Tryz.sizeOf206
  v51 := Tryz.zeroValue206
  t53 := Tryz.underlying208
  a53 := Tryz.isAgg208
  z53 := Tryz.sizeOf208
  v53 := Tryz.zeroValue208
  t131 := Tryz.underlying203
  a131 := Tryz.isAgg203
  z131 := Tryz.sizeOf203
  v131 := Tryz.zeroValue203
  t182 := Tryz.underlying198
  a182 := Tryz.isAgg198
  z182 := Tryz.sizeOf198
  v182 := Tryz.zeroValue198
  t183 := Tryz.underlying199
  a183 := Tryz.isAgg199
  z183 := Tryz.sizeOf199
  v183 := Tryz.zeroValue199
  t218 := Tryz.underlying233
  a218 := Tryz.isAgg233
  z218 := Tryz.sizeOf233
  v218 := Tryz.zeroValue233
  t222 := Tryz.underlying237
  a222 := Tryz.isAgg237
  z222 := Tryz.sizeOf237
  v222 := Tryz.zeroValue237
  t228 := Tryz.underlying260
  a228 := Tryz.isAgg260
  z228 := Tryz.sizeOf260
  v228 := Tryz.zeroValue260
  t229 := Tryz.underlying124
  a229 := Tryz.isAgg124
  z229 := Tryz.sizeOf124
  v229 := Tryz.zeroValue124 }
def Tryz.lays194_ren : Go.Shelf.Ren := ⟨fun | 194 => 71 | n => n, fun | 31 => 22 | 9 => 9 | 3 => 3 | 4 => 4 | 0 => 0 | n => n, fun | n => n⟩
theorem Tryz.lays194 : Go.Proofs.Lays.n194 Tryz.prog Tryz.lays194_ren := {
  mixed := by kernel_rfl
  f194 := Tryz.func71.trans (congrArg some (by kernel_rfl))
  t0 := Tryz.underlying0
  a0 := Tryz.isAgg0
  z0 := Tryz.sizeOf0
  v0 := Tryz.zeroValue0
  t3 := Tryz.underlying3
  a3 := Tryz.isAgg3
  z3 := Tryz.sizeOf3
  v3 := Tryz.zeroValue3
  t4 := Tryz.underlying4
  a4 := Tryz.isAgg4
  z4 := Tryz.sizeOf4
  v4 := Tryz.zeroValue4
  t9 := Tryz.underlying9
  a9 := Tryz.isAgg9
  z9 := Tryz.sizeOf9
  v9 := Tryz.zeroValue9
  t31 := Tryz.underlying22
  a31 := Tryz.isAgg22
  z31 := Tryz.sizeOf22
  v31 := Tryz.zeroValue22 }
open Go.Sort Go.RowKit in
theorem Tryz.slices_Sort_string (blk off cap : Nat) (ss : List (List UInt8)) (w : World) (hH : Holds encStr w blk off ss.toArray) (hblk : blk < w.heap.size) (hsz : ss.length < 4611686018427387904) :
    Calls Tryz.prog 70 #[.slice (some ⟨blk, off, none⟩) ss.length cap] w fun e w' =>
      e = .returned (.tuple #[]) ∧ ∃ n os, w' = grow (putRow encStr (Sort.ahead w n) blk off (ss.mergeSort fun x y => decide (x ≤ y)).toArray) os := Any.slices_Sort_string Tryz.lays190 blk off cap ss w hH hblk hsz
open Go.RowKit Go.Lib Go.Sort in
theorem Tryz.slices_Compact_string (blk off cap : Nat) (zs : List (List UInt8)) (w : World) (hH : Holds encStr w blk off zs.toArray) (hsz : zs.length ≤ 9223372036854775807) (hcap : zs.length ≤ cap) :
    Calls Tryz.prog 71 #[.slice (some ⟨blk, off, none⟩) zs.length cap] w fun e w' => e = .returned (.slice (some ⟨blk, off, none⟩) (Lib.compact zs).length cap) ∧ ∃ q, w' = putRow encStr (Sort.ahead w q) blk off (Lib.compact zs ++ List.replicate (zs.length - (Lib.compact zs).length) []).toArray := Any.slices_Compact_string Tryz.lays194 blk off cap zs w hH hsz hcap
open Go.RowKit Go.Lib Go.Sort in
theorem Tryz.slices_Compact_string_empty (a : Option Addr) (cap : Nat) (w : World) :
    Calls Tryz.prog 71 #[.slice a 0 cap] w fun e w' => e = .returned (.slice a 0 cap) ∧ w' = w := Any.slices_Compact_string_empty Tryz.lays194 a cap w
open Go.RowKit Go.Sort in
theorem Tryz.slices_Sort_string_none (p : Option Addr) (cap : Nat) (w : World) :
    Calls Tryz.prog 70 #[.slice p 0 cap] w fun e w' => e = .returned (.tuple #[]) ∧ w' = w := Any.slices_Sort_string_none Tryz.lays190 p cap w
end Go.Proofs
namespace Go.Proofs.YtcpnicfkpkonkaaGreatDoor
open Go Go.Ev
set_option maxRecDepth 100000

theorem clones_spec (l : List Str) (h : room l.length 16) : Does Tryz.prog 69 [.l .str l] [] (.x (.c (.own 0))) [.own 9 .str l] := by
  refine Does.nilOwn Tryz.func69 (by kernel_rfl) (by kernel_rfl) fun Γ => ?_
  refine J.go (cfg := cfg0) cfg0_ok Tryz.func69 1000 (t := (.stop [.ops [1, 0, 0] 1, .code [1, 0, 1], .code [1, 1]] { n := 8, fr := [(0, .p (.lst .str l)), (2, .p (.v (Value.slice none 0 0))), (3, .p (.lst .str l))], ck := [] })) (by kernel_rfl) ?_
  refine J.isNil (d := 4) (s := 3) (t := .str) (l := l) (by kernel_rfl) rfl (fun h0 => ?_) ?_
  · refine J.go (cfg := cfg0) cfg0_ok Tryz.func69 1000 (t := (.ite true (.ret (.p (.v (Value.slice none 0 0))) []) (.need (room (List.length ([] ++ l)) 16) (.ret (.x (.c (.own 0))) [.own 9 .str ([] ++ l)])))) (by kernel_rfl) ?_
    exact ⟨fun _ => .inr ⟨h0, rfl, rfl⟩, fun h => Bool.noConfusion h⟩
  · refine J.go (cfg := cfg0) cfg0_ok Tryz.func69 1000 (t := (.ite false (.ret (.p (.v (Value.slice none 0 0))) []) (.need (room (List.length ([] ++ l)) 16) (.ret (.x (.c (.own 0))) [.own 9 .str ([] ++ l)])))) (by kernel_rfl) ?_
    exact ⟨fun h => Bool.noConfusion h, fun _ => ⟨h, .inl ⟨rfl, rfl⟩⟩⟩
def eCloneS : Nat × (List SX → List Chunk → Option (Option Prop × SV × List Chunk)) := (69, fun
  | [.c (.pd (.lst .str l))], [] => some (some (room l.length 16), .x (.c (.own 0)), [.own 9 .str l])
  | _, _ => none)
theorem eCloneS_ok (vs : List SX) (ck : List Chunk) (p : Option Prop) (ret : SV) (ck' : List Chunk) (h : eCloneS.2 vs ck = some (p, ret, ck')) (hp : Holds p) : Does Tryz.prog eCloneS.1 vs ck ret ck' := by
  unfold eCloneS at h
  simp only at h
  split at h
  · rename_i l
    simp only [Option.some.injEq, Prod.mk.injEq] at h
    obtain ⟨rfl, rfl, rfl⟩ := h
    exact clones_spec l hp
  · simp at h
theorem strs_enc (l : List Str) : l.flatMap (ETy.enc .str) = l.map PD.str := by
  induction l with
  | nil => rfl
  | cons a l ih => rw [List.flatMap_cons, List.map_cons, ih]; rfl
theorem strs_R (H : Mem) (l : List Str) : All2 (PR H) (l.map PD.str) (l.map encStr) := by
  induction l with
  | nil => exact .nil
  | cons a l ih => exact .cons (PR.str a) ih
theorem strs_of {H : Mem} : ∀ {l : List Str} {xs : List Value}, All2 (PR H) (l.map PD.str) xs → xs = l.map encStr
  | [], _, h => by cases h; rfl
  | a :: l, _, h => by
    cases h with
    | cons a1 h =>
      rw [strs_of h, List.map_cons]
      cases a1; rfl
theorem put_take (d : List Str) (cur : Array Value) (h : d.length ≤ cur.size) : (Sort.putCells encStr 0 d.toArray cur).toList.take d.length = d.map encStr := by
  refine List.ext_getElem? fun k => ?_
  rw [List.getElem?_take, List.getElem?_map]
  by_cases hk : k < d.length
  · rw [if_pos hk]
    simp only [Sort.putCells, Array.toList_mapIdx, List.getElem?_mapIdx, Array.getElem?_toList]
    rw [Array.getElem?_eq_getElem (by omega), Option.map_some, if_pos ⟨Nat.zero_le _, by simpa using hk⟩, List.getElem?_eq_getElem hk]
    simp [hk]
  · rw [if_neg hk, List.getElem?_eq_none (by omega)]; rfl
def sortS (l : List Str) : List Str := l.mergeSort fun x y => decide (x ≤ y)
theorem one_own {V : Vn} {vs : List Value} {i : Nat} (hv : All2 (SX.R V) [.c (.own i)] vs) : vs = [V.ov i] := by
  cases hv with
  | cons a1 hv =>
    cases hv
    have h : _ = V.ov i := a1
    rw [h]
theorem wok_put {Γ : Ctx} {T : TypeId} {l : List Str} {V : Vn} {w : World} (r : WOk Γ [.own T .str l] V w) {g n cap : Nat} {cur : Array Value} (ho : V.ov 0 = .slice (some ⟨g, 0, none⟩) n cap)
    (hg : w.heap[g]? = some (.cells cur T (0, 0))) (hn : n ≤ cap) (hm : cap ≤ maxLen) (hc : cur.size = cap * 1) (hs : V.σ 0 = g) (d l' : List Str) (hd : d.length = n) (hl : d = l') (hln : l.length = n) (q : Nat) :
    WOk Γ [.own T .str l'] V (Sort.putRow encStr (Sort.ahead w q) g 0 d.toArray) := by
  subst hl
  have hblk : (Chunk.own T .str l).blk V 0 = some g := by show (V.ov 0).ownBlock = _; rw [ho]; rfl
  refine WOk.rewrite r (i := 0) (c := .own T .str l) rfl (.own T .str d) ⟨rfl, rfl, rfl, by simp [Sort.putRow, Sort.mapBlock, Sort.ahead]⟩ (fun b hb => ?_) rfl ?_
  · rw [hblk] at hb
    have : g ≠ b := fun e => hb (by rw [e])
    simp [Sort.putRow, Sort.mapBlock, Sort.ahead, Array.getElem?_modify, this]
  · refine ⟨d.map encStr, ⟨by simp [ETy.size], .inr ⟨g, cap, Sort.putCells encStr 0 d.toArray cur, by rw [ho, hd], Nat.zero_le _, ?_, by omega, hm, ?_, ?_⟩⟩, ?_, fun b hb => ?_⟩
    · simp [Sort.putRow, Sort.mapBlock, Sort.ahead, Array.getElem?_modify, hg, Sort.onCells]
    · simp [Sort.putCells, hc, ETy.size]
    · have := put_take d cur (by omega)
      simpa [ETy.size] using this
    · rw [strs_enc]; exact strs_R _ _
    · rw [ho] at hb
      rw [hs]; simpa [Value.ownBlock] using hb
theorem own_row {T : TypeId} {l : List Str} {V : Vn} {w : World} (h : (Chunk.own T .str l).holds V w 0) : (V.ov 0 = .slice none 0 0 ∧ l = []) ∨
    ∃ g cap cur, V.ov 0 = .slice (some ⟨g, 0, none⟩) l.length cap ∧ w.heap[g]? = some (.cells cur T (0, 0)) ∧ l.length ≤ cap ∧ cap ≤ maxLen ∧ cur.size = cap * 1 ∧ V.σ 0 = g ∧ Sort.Holds encStr w g 0 l.toArray := by
  obtain ⟨xs, ⟨h1, h2⟩, h3, h4⟩ := h
  rw [strs_enc] at h3
  have hx := strs_of h3
  rcases h2 with ⟨e, e0⟩ | ⟨g, cap, cur, e, _, hg, hn, hm, hc, ht⟩
  · exact .inl ⟨e, List.length_eq_zero_iff.1 e0⟩
  · refine .inr ⟨g, cap, cur, e, hg, hn, hm, hc, h4 g (by rw [e]; rfl), fun j hj => ?_⟩
    have hj' : j < l.length := by simpa using hj
    have hsz : (ETy.size .str) = 1 := rfl
    have hk : cur.toList[j]? = some (encStr l[j]) := by
      have : (cur.toList.take (l.length * ETy.size .str))[j]? = (l.map encStr)[j]? := by rw [ht, hx]
      rw [List.getElem?_take, if_pos (by rw [hsz]; omega), List.getElem?_map, List.getElem?_eq_getElem hj'] at this
      exact this
    refine ⟨?_, ?_⟩
    · simp only [World.cell?, hg, Nat.zero_add]
      rw [← Array.getElem?_toList, hk]
      simp [hj']
    · simp [World.frozen?, hg]
theorem sorts_spec (l : List Str) (h : l.length ≤ 1000000) : Does Tryz.prog 70 [.c (.own 0)] [.own 9 .str l] (.tup []) [.own 9 .str (sortS l)] := by
  intro w V vs hw hT hv
  rw [one_own hv]
  have hh := hw.own 0 _ rfl
  rcases own_row hh with ⟨e, e0⟩ | ⟨g, cap, cur, e, hg, hn, hm, hc, hs, hH⟩
  · rw [e]
    refine (Tryz.slices_Sort_string_none none 0 w).mono fun e w' ⟨he, hw'⟩ => ?_
    subst he; subst hw'
    subst e0
    exact ⟨_, V, rfl, ⟨[], rfl, .nil⟩, by rw [show sortS [] = [] from List.mergeSort_nil]; exact hw⟩
  · rw [e]
    have hb := (Array.getElem?_eq_some_iff.1 hg).1
    refine (Tryz.slices_Sort_string g 0 cap l w hH hb (by omega)).mono fun e1 w' ⟨he, q, os, hw'⟩ => ?_
    rw [show (l.mergeSort fun x y => decide (x ≤ y)) = sortS l from rfl] at hw'
    subst he; subst hw'
    refine ⟨_, V, rfl, ⟨[], rfl, .nil⟩, ?_⟩
    have h1 := wok_put hw e hg hn hm hc hs (sortS l) (sortS l) (List.length_mergeSort l) rfl rfl q
    refine h1.kept ⟨rfl, rfl, rfl, ?_, fun k hk _ => ?_⟩
    · show _ ≤ (_ ++ _ : Array Obj).size
      rw [Array.size_append]; omega
    · show (_ ++ _ : Array Obj)[k]? = _
      rw [Array.getElem?_append_left hk]
def eSortS : Nat × (List SX → List Chunk → Option (Option Prop × SV × List Chunk)) := (70, fun
  | [.c (.own 0)], [.own 9 .str l] => some (some (l.length ≤ 1000000), .tup [], [.own 9 .str (sortS l)])
  | _, _ => none)
theorem eSortS_ok (vs : List SX) (ck : List Chunk) (p : Option Prop) (ret : SV) (ck' : List Chunk) (h : eSortS.2 vs ck = some (p, ret, ck')) (hp : Holds p) : Does Tryz.prog eSortS.1 vs ck ret ck' := by
  unfold eSortS at h
  simp only at h
  split at h
  · rename_i l
    simp only [Option.some.injEq, Prod.mk.injEq] at h
    obtain ⟨rfl, rfl, rfl⟩ := h
    exact sorts_spec l hp
  · simp at h
def compS (l : List Str) : List Str := Lib.compact l
theorem compS_le (l : List Str) : (compS l).length ≤ l.length := by
  unfold compS Lib.compact Lib.compactUpTo
  rw [List.length_map]
  exact Nat.le_trans (List.length_filter_le _ _) (by rw [List.length_range]; exact Nat.le_refl _)
theorem compacts_spec (l : List Str) (h : l.length ≤ 1000000) : Does Tryz.prog 71 [.c (.own 0)] [.own 9 .str l] (.x (.c (.own 1))) [.dead, .own 9 .str (compS l)] := by
  intro w V vs hw hT hv
  rw [one_own hv]
  have hh := hw.own 0 _ rfl
  have hle := compS_le l
  rcases own_row hh with ⟨e, e0⟩ | ⟨g, cap, cur, e, hg, hn, hm, hc, hs, hH⟩
  · rw [e]
    refine (Tryz.slices_Compact_string_empty none 0 w).mono fun e1 w' ⟨he, hw'⟩ => ?_
    subst he; subst hw'
    subst e0
    obtain ⟨V', _, _, _, e2, hw2⟩ := hw.regrow rfl (Nat.le_refl _) none (c := .own 9 .str []) (v' := .slice none 0 0) (s' := 0) (w' := w') (row := none) (by simp) (World.grownBy.refl _ _) (fun V' hag hH f1 f2 => by
      refine ⟨⟨[], ⟨rfl, .inl ⟨f2, rfl⟩⟩, .nil, fun b hb => ?_⟩, fun b hb => ?_⟩
      · rw [f2] at hb; cases hb
      · have hb' : (V'.ov 1).ownBlock = some b := hb
        rw [show V'.ov 1 = _ from f2] at hb'; cases hb')
    refine ⟨_, V', rfl, e2.symm, ?_⟩
    have := hw2.kill 0
    rw [show compS [] = [] by simp [compS, Lib.compact, Lib.compactUpTo]]
    simpa [killCk] using this
  · rw [e]
    refine (Tryz.slices_Compact_string g 0 cap l w hH (by omega) hn).mono fun e1 w' ⟨he, q, hw'⟩ => ?_
    rw [show Lib.compact l = compS l from rfl] at hw' he
    subst he; subst hw'
    have hdl : (compS l ++ List.replicate (l.length - (compS l).length) ([] : Str)).length = l.length := by
      rw [List.length_append, List.length_replicate]; omega
    have hpt := put_take (compS l ++ List.replicate (l.length - (compS l).length) []) cur (by omega)
    have hpt2 : (Sort.putCells encStr 0 (compS l ++ List.replicate (l.length - (compS l).length) ([] : Str)).toArray cur).toList.take (compS l).length = (compS l).map encStr := by
      have h2 := congrArg (List.take (compS l).length) hpt
      rw [List.take_take, hdl, Nat.min_eq_left hle, List.map_append, List.take_append_of_le_length (by rw [List.length_map]; exact Nat.le_refl _)] at h2
      rw [h2]; exact List.take_of_length_le (by rw [List.length_map]; exact Nat.le_refl _)
    obtain ⟨V', _, _, _, e2, hw2⟩ := hw.regrow rfl (Nat.le_refl _) (some 0) (c := .own 9 .str (compS l)) (v' := .slice (some ⟨g, 0, none⟩) (compS l).length cap) (s' := g)
      (w' := Sort.putRow encStr (Sort.ahead w q) g 0 (compS l ++ List.replicate (l.length - (compS l).length) ([] : Str)).toArray) (row := some g)
      (fun b hb => ⟨0, _, rfl, rfl, by show (V.ov 0).ownBlock = _; rw [e]; exact hb⟩)
      ⟨rfl, rfl, rfl, by simp [Sort.putRow, Sort.mapBlock, Sort.ahead], fun k hk hne => by
        have : g ≠ k := fun e => hne (by rw [e])
        simp [Sort.putRow, Sort.mapBlock, Sort.ahead, Array.getElem?_modify, this]⟩
      (fun V' hag hH f1 f2 => by
        refine ⟨⟨(compS l).map encStr, ⟨by simp [ETy.size], .inr ⟨g, cap, Sort.putCells encStr 0 (compS l ++ List.replicate (l.length - (compS l).length) ([] : Str)).toArray cur, f2, Nat.zero_le _, ?_, by omega, hm, ?_, ?_⟩⟩, ?_, fun b hb => ?_⟩, fun b hb => ?_⟩
        · simp [Sort.putRow, Sort.mapBlock, Sort.ahead, Array.getElem?_modify, hg, Sort.onCells]
        · simp [Sort.putCells, hc, ETy.size]
        · simpa [ETy.size] using hpt2
        · rw [strs_enc]; exact strs_R _ _
        · rw [f2] at hb
          rw [f1]; simpa [Value.ownBlock] using hb
        · have hb' : (V'.ov 1).ownBlock = some b := hb
          rw [show V'.ov 1 = _ from f2] at hb'
          exact .inl (by simpa [Value.ownBlock] using hb'))
    exact ⟨_, V', rfl, e2.symm, hw2⟩
def eCompS : Nat × (List SX → List Chunk → Option (Option Prop × SV × List Chunk)) := (71, fun
  | [.c (.own 0)], [.own 9 .str l] => some (some (l.length ≤ 1000000), .x (.c (.own 1)), [.dead, .own 9 .str (compS l)])
  | _, _ => none)
theorem eCompS_ok (vs : List SX) (ck : List Chunk) (p : Option Prop) (ret : SV) (ck' : List Chunk) (h : eCompS.2 vs ck = some (p, ret, ck')) (hp : Holds p) : Does Tryz.prog eCompS.1 vs ck ret ck' := by
  unfold eCompS at h
  simp only at h
  split at h
  · rename_i l
    simp only [Option.some.injEq, Prod.mk.injEq] at h
    obtain ⟨rfl, rfl, rfl⟩ := h
    exact compacts_spec l hp
  · simp at h
def cfgOn : Cfg := ⟨tys0, [eCloneS, eSortS, eCompS]⟩
theorem cfgOn_ok : TabOk Tryz.prog cfgOn.tab := (TabOk.cons eCloneS_ok (TabOk.cons eSortS_ok (TabOk.cons eCompS_ok TabOk.nil)))

end Go.Proofs.YtcpnicfkpkonkaaGreatDoor

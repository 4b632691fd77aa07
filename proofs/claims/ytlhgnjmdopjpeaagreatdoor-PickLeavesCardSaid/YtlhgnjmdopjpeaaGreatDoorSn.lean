/- Contracts: the document's Check. Conditions: sizes of blocks. -/
import Derived.Test.YtlhgnjmdopjpeaaGreatDoorSm
import Derived.Test.YtlhgnjmdopjpeaaGreatDoorSg
namespace Go.Proofs.YtlhgnjmdopjpeaaGreatDoor
open Go Go.Ev
set_option maxRecDepth 100000
def gZ : Cfg := ⟨aX, [qk, ny, oA, rR, Fi, uA, yQ, Bd, lH, Fj]⟩
theorem eZ : ah Tryz.prog gZ.tab := (ah.cons oB (ah.cons Bj (ah.cons uC (ah.cons Fk (ah.cons OX (ah.cons Is (ah.cons Ll (ah.cons DB (ah.cons lI (ah.cons OY ah.nil))))))))))
theorem j7 {f : Nat → Int} {k n : Nat} {r : Int} (h : (f k != 0) = true) : iw (b5 f k (n + 1)) r = f k := by
 rw [b5, if_pos h, ix h]
theorem nA {f : Nat → Int} {k n : Nat} {r : Int} (h : (f k != 0) = false) : iw (b5 f k (n + 1)) r = iw (b5 f (k + 1) n) r := by
 rw [b5, if_neg (by rw [h]; decide)]
def inF (c : Chart) (k : Nat) : Int := dV c.states k
def vaF (c : Chart) (k : Nat) : Int := fm (ETy.get .var c.vars k)
def blF (c : Chart) (k : Nat) : Int := dt c (ETy.get .stat c.states k)
def trF (c : Chart) (k : Nat) : Int := dj c k (dM c.states) (ETy.get .tran c.trans k)
structure Sound (c : Chart) : Prop where
 tree : cm c.states = true
 one : (c.states.map fun s : Ev.Stat => s.name).Nodup
 va : c.vars.length ≤ 8
 st : c.states.length ≤ 40
 tr : c.trans.length ≤ 48
 names : ∀ s ∈ c.states, a8 s.name = true
 bulk : ∀ s ∈ c.states, s.entry.length ≤ 4398046511104 ∧ s.leave.length ≤ 4398046511104
theorem MY (c : Chart) (h : Sound c) (Γ : Ctx) : ∀ (n k : Nat), c.trans.length - k = n → k ≤ c.trans.length →
 J Tryz.prog 24 (aB Tryz.f24) Γ (Eq2 (.x (.i (iw (b5 (trF c) k n) 0))) []) [.code [1, 1, 1, 1, 1, 1, 1, 1, 1, 1, 0, 1, 0, 0], .inLoop [1, 1, 1, 1, 1, 1, 1, 1, 1, 1, 0, 1, 0, 0], .inBlock 8, .code [1, 1, 1, 1, 1, 1, 1, 1, 1, 1, 1]] ({ n := 184, fr := [(1, .x (.c (.loc 0 0))), (2, .i 0), (13, .i ((k : Int)))], ck := [.cells [.pd (.str c.name), .pd (.lst .str c.events), .pd (.lst .var c.vars), .pd (.lst .stat c.states), .pd (.lst .tran c.trans)] 27] }) := by
 have ht := h.tr
 have hs := h.st
 intro n
 induction n with
 | zero => ?_
 | succ n ih => ?_
 all_goals
  intro k hn hk
  refine jg eZ Tryz.func24 (.ite (decide ((k : Int) < (c.trans.length : Int))) (.need ((0 : Int) ≤ (k : Int) ∧ (k : Int) < (c.trans.length : Int) ∧ c.trans.length ≤ maxLen ∧ cm c.states = true ∧ List.Nodup (List.map (fun s => s.name) c.states) ∧ c.states.length ≤ 1466015503701 ∧ ∀ (s : ETy.den .stat), s ∈ c.states → a8 s.name = true) (.ite (dj c k (dM c.states) (ETy.get .tran c.trans k) != (0 : Int)) (.ret (.i (dj c k (dM c.states) (ETy.get .tran c.trans k))) []) (.stop [.code [1, 1, 1, 1, 1, 1, 1, 1, 1, 1, 0, 1, 0, 0], .inLoop [1, 1, 1, 1, 1, 1, 1, 1, 1, 1, 0, 1, 0, 0], .inBlock 8, .code [1, 1, 1, 1, 1, 1, 1, 1, 1, 1, 1]] { n := 184, fr := [(1, .x (.c (.loc 0 0))), (2, .i 0), (13, .i (IntKind.wrap .i64 ((k : Int) + 1)))], ck := [.cells [.pd (.str c.name), .pd (.lst .str c.events), .pd (.lst .var c.vars), .pd (.lst .stat c.states), .pd (.lst .tran c.trans)] 27] }))) (.ret (.i 0) [])) ?_
  refine ⟨fun hlt => ?_, fun hge => ?_⟩
  · have hk' : k < c.trans.length := by have := of_decide_eq_true hlt; omega
    have hm : c.trans.length ≤ maxLen := by unfold maxLen; omega
    refine ⟨⟨by omega, by omega, hm, h.tree, h.one, by omega, h.names⟩, fun hb => ?_, fun hb => ?_⟩
    · first
      | (exfalso; omega)
      | (rw [j7 (f := trF c) hb]; exact ⟨rfl, rfl⟩)
    · first
      | (exfalso; omega)
      | (rw [nA (f := trF c) hb, ba (aK hk' hm)]; exact ih (k + 1) (by omega) (by omega))
  · have := of_decide_eq_false hge
    first
    | (exfalso; omega)
    | exact ⟨rfl, rfl⟩
theorem G1 (c : Chart) (s : Ev.Stat) (h : s.entry.length ≤ 4398046511104 ∧ s.leave.length ≤ 4398046511104) : dt c s =
 if (a7 s.kind && (decide ((s.entry.length : Int) > 0) || decide ((s.leave.length : Int) > 0)) || s.kind == 4 && decide ((s.leave.length : Int) > 0)) = true then 1
 else if (cC c.events c.vars s.entry != 0) = true then cC c.events c.vars s.entry else cC c.events c.vars s.leave := by
 unfold dt
 have e : decide (IntKind.wrap .i64 ((s.entry.length : Int) + (s.leave.length : Int)) > 0) = (decide ((s.entry.length : Int) > 0) || decide ((s.leave.length : Int) > 0)) := by
  rw [cj (by omega) (by omega), Bool.eq_iff_iff]
  simp only [Bool.or_eq_true, decide_eq_true_eq]
  omega
 rw [e]
theorem MD (c : Chart) (h : Sound c) (Γ : Ctx) : ∀ (n k : Nat), c.states.length - k = n → k ≤ c.states.length →
 J Tryz.prog 24 (aB Tryz.f24) Γ (Eq2 (.x (.i (iw (b5 (blF c) k n) (q7E c (dM c.states))))) []) [.code [1, 1, 1, 1, 1, 1, 1, 1, 1, 0, 1, 0, 0], .inLoop [1, 1, 1, 1, 1, 1, 1, 1, 1, 0, 1, 0, 0], .inBlock 6, .code [1, 1, 1, 1, 1, 1, 1, 1, 1, 1]] ({ n := 184, fr := [(1, .x (.c (.loc 0 0))), (2, .i 0), (9, .i ((k : Int)))], ck := [.cells [.pd (.str c.name), .pd (.lst .str c.events), .pd (.lst .var c.vars), .pd (.lst .stat c.states), .pd (.lst .tran c.trans)] 27] }) := by
 have hs := h.st
 have no : ∀ {b : Bool}, b = false → ¬ b = true := fun h e => by rw [h] at e; cases e
 intro n
 induction n with
 | zero => ?_
 | succ n ih => ?_
 all_goals
  intro k hn hk
  refine jg eZ Tryz.func24 (.ite (decide ((k : Int) < (c.states.length : Int))) (.need (inRg k c.states.length) (.ite (a7 (Stat.kind (ETy.get .stat c.states k)) && (decide ((↑(List.length (Stat.entry (ETy.get .stat c.states k))) : Int) > 0) || decide ((↑(List.length (Stat.leave (ETy.get .stat c.states k))) : Int) > 0)) || Stat.kind (ETy.get .stat c.states k) == (4 : Int) && decide ((↑(List.length (Stat.leave (ETy.get .stat c.states k))) : Int) > 0)) (.ret (.i 1) []) (.ite (cC c.events c.vars (Stat.entry (ETy.get .stat c.states k)) != (0 : Int)) (.ret (.i (cC c.events c.vars (Stat.entry (ETy.get .stat c.states k)))) []) (.ite (cC c.events c.vars (Stat.leave (ETy.get .stat c.states k)) != (0 : Int)) (.ret (.i (cC c.events c.vars (Stat.leave (ETy.get .stat c.states k)))) []) (.stop [.code [1, 1, 1, 1, 1, 1, 1, 1, 1, 0, 1, 0, 0], .inLoop [1, 1, 1, 1, 1, 1, 1, 1, 1, 0, 1, 0, 0], .inBlock 6, .code [1, 1, 1, 1, 1, 1, 1, 1, 1, 1]] { n := 184, fr := [(1, .x (.c (.loc 0 0))), (2, .i 0), (9, .i (IntKind.wrap .i64 ((k : Int) + 1)))], ck := [.cells [.pd (.str c.name), .pd (.lst .str c.events), .pd (.lst .var c.vars), .pd (.lst .stat c.states), .pd (.lst .tran c.trans)] 27] }))))) (.stop [.code [1, 1, 1, 1, 1, 1, 1, 1, 1, 1, 0, 1, 0, 0], .inLoop [1, 1, 1, 1, 1, 1, 1, 1, 1, 1, 0, 1, 0, 0], .inBlock 8, .code [1, 1, 1, 1, 1, 1, 1, 1, 1, 1, 1]] { n := 184, fr := [(1, .x (.c (.loc 0 0))), (2, .i 0), (13, .i 0)], ck := [.cells [.pd (.str c.name), .pd (.lst .str c.events), .pd (.lst .var c.vars), .pd (.lst .stat c.states), .pd (.lst .tran c.trans)] 27] })) ?_
  refine ⟨fun hlt => ?_, fun hge => ?_⟩
  · have hk' : k < c.states.length := by have := of_decide_eq_true hlt; omega
    have hm : c.states.length ≤ maxLen := by unfold maxLen; omega
    have e : blF c k = _ := G1 c (ETy.get .stat c.states k) (h.bulk _ (by rw [ETy.get_eq (t := .stat) (List.getElem?_eq_getElem hk')]; exact List.getElem_mem hk'))
    refine ⟨⟨by omega, by omega⟩, fun hb => ?_, fun hb => ⟨fun h2 => ?_, fun h2 => ⟨fun h3 => ?_, fun h3 => ?_⟩⟩⟩
    · rw [if_pos hb] at e
      first
      | (exfalso; omega)
      | (rw [j7 (f := blF c) (by rw [e]; rfl), e]; exact ⟨rfl, rfl⟩)
    · rw [if_neg (no hb), if_pos h2] at e
      first
      | (exfalso; omega)
      | (rw [j7 (f := blF c) (by rw [e]; exact h2), e]; exact ⟨rfl, rfl⟩)
    · rw [if_neg (no hb), if_neg (no h2)] at e
      first
      | (exfalso; omega)
      | (rw [j7 (f := blF c) (by rw [e]; exact h3), e]; exact ⟨rfl, rfl⟩)
    · rw [if_neg (no hb), if_neg (no h2)] at e
      first
      | (exfalso; omega)
      | (rw [nA (f := blF c) (by rw [e]; exact h3), ba (aK hk' hm)]; exact ih (k + 1) (by omega) (by omega))
  · have := of_decide_eq_false hge
    first
    | (exfalso; omega)
    | exact MY c h Γ c.trans.length 0 (by omega) (by omega)
theorem M4 (c : Chart) (h : Sound c) (Γ : Ctx) : ∀ (n k : Nat), c.vars.length - k = n → k ≤ c.vars.length →
 J Tryz.prog 24 (aB Tryz.f24) Γ (Eq2 (.x (.i (iw (b5 (vaF c) k n) (q6E c (dM c.states))))) []) [.code [1, 1, 1, 1, 1, 1, 1, 1, 0, 1, 0, 0], .inLoop [1, 1, 1, 1, 1, 1, 1, 1, 0, 1, 0, 0], .inBlock 4, .code [1, 1, 1, 1, 1, 1, 1, 1, 1]] ({ n := 184, fr := [(1, .x (.c (.loc 0 0))), (2, .i 0), (7, .i ((k : Int)))], ck := [.cells [.pd (.str c.name), .pd (.lst .str c.events), .pd (.lst .var c.vars), .pd (.lst .stat c.states), .pd (.lst .tran c.trans)] 27] }) := by
 have hs := h.va
 intro n
 induction n with
 | zero => ?_
 | succ n ih => ?_
 all_goals
  intro k hn hk
  refine jg eZ Tryz.func24 (.ite (decide ((k : Int) < (c.vars.length : Int))) (.need (inRg k c.vars.length) (.ite (fm (ETy.get .var c.vars k) != (0 : Int)) (.ret (.i (fm (ETy.get .var c.vars k))) []) (.stop [.code [1, 1, 1, 1, 1, 1, 1, 1, 0, 1, 0, 0], .inLoop [1, 1, 1, 1, 1, 1, 1, 1, 0, 1, 0, 0], .inBlock 4, .code [1, 1, 1, 1, 1, 1, 1, 1, 1]] { n := 184, fr := [(1, .x (.c (.loc 0 0))), (2, .i 0), (7, .i (IntKind.wrap .i64 ((k : Int) + 1)))], ck := [.cells [.pd (.str c.name), .pd (.lst .str c.events), .pd (.lst .var c.vars), .pd (.lst .stat c.states), .pd (.lst .tran c.trans)] 27] }))) (.stop [.code [1, 1, 1, 1, 1, 1, 1, 1, 1, 0, 1, 0, 0], .inLoop [1, 1, 1, 1, 1, 1, 1, 1, 1, 0, 1, 0, 0], .inBlock 6, .code [1, 1, 1, 1, 1, 1, 1, 1, 1, 1]] { n := 184, fr := [(1, .x (.c (.loc 0 0))), (2, .i 0), (9, .i 0)], ck := [.cells [.pd (.str c.name), .pd (.lst .str c.events), .pd (.lst .var c.vars), .pd (.lst .stat c.states), .pd (.lst .tran c.trans)] 27] })) ?_
  refine ⟨fun hlt => ?_, fun hge => ?_⟩
  · have hk' : k < c.vars.length := by have := of_decide_eq_true hlt; omega
    have hm : c.vars.length ≤ maxLen := by unfold maxLen; omega
    refine ⟨⟨by omega, by omega⟩, fun hb => ?_, fun hb => ?_⟩
    · first
      | (exfalso; omega)
      | (rw [j7 (f := vaF c) hb]; exact ⟨rfl, rfl⟩)
    · first
      | (exfalso; omega)
      | (rw [nA (f := vaF c) hb, ba (aK hk' hm)]; exact ih (k + 1) (by omega) (by omega))
  · have := of_decide_eq_false hge
    first
    | (exfalso; omega)
    | exact MD c h Γ c.states.length 0 (by omega) (by omega)
theorem ML (c : Chart) (h : Sound c) (Γ : Ctx) : ∀ (n k : Nat), c.states.length - k = n → k ≤ c.states.length →
 J Tryz.prog 24 (aB Tryz.f24) Γ (Eq2 (.x (.i (iw (b5 (inF c) k n) (q5E c (dM c.states))))) []) [.code [1, 1, 1, 1, 1, 1, 1, 0, 1, 0, 0], .inLoop [1, 1, 1, 1, 1, 1, 1, 0, 1, 0, 0], .inBlock 2, .code [1, 1, 1, 1, 1, 1, 1, 1]] ({ n := 184, fr := [(1, .x (.c (.loc 0 0))), (2, .i 0), (5, .i ((k : Int)))], ck := [.cells [.pd (.str c.name), .pd (.lst .str c.events), .pd (.lst .var c.vars), .pd (.lst .stat c.states), .pd (.lst .tran c.trans)] 27] }) := by
 have hs := h.st
 intro n
 induction n with
 | zero => ?_
 | succ n ih => ?_
 all_goals
  intro k hn hk
  refine jg eZ Tryz.func24 (.ite (decide ((k : Int) < (c.states.length : Int))) (.need ((0 : Int) ≤ (k : Int) ∧ (k : Int) < (c.states.length : Int) ∧ c.states.length ≤ maxLen ∧ cm c.states = true) (.ite (dV c.states k != (0 : Int)) (.ret (.i (dV c.states k)) []) (.stop [.code [1, 1, 1, 1, 1, 1, 1, 0, 1, 0, 0], .inLoop [1, 1, 1, 1, 1, 1, 1, 0, 1, 0, 0], .inBlock 2, .code [1, 1, 1, 1, 1, 1, 1, 1]] { n := 184, fr := [(1, .x (.c (.loc 0 0))), (2, .i 0), (5, .i (IntKind.wrap .i64 ((k : Int) + 1)))], ck := [.cells [.pd (.str c.name), .pd (.lst .str c.events), .pd (.lst .var c.vars), .pd (.lst .stat c.states), .pd (.lst .tran c.trans)] 27] }))) (.stop [.code [1, 1, 1, 1, 1, 1, 1, 1, 0, 1, 0, 0], .inLoop [1, 1, 1, 1, 1, 1, 1, 1, 0, 1, 0, 0], .inBlock 4, .code [1, 1, 1, 1, 1, 1, 1, 1, 1]] { n := 184, fr := [(1, .x (.c (.loc 0 0))), (2, .i 0), (7, .i 0)], ck := [.cells [.pd (.str c.name), .pd (.lst .str c.events), .pd (.lst .var c.vars), .pd (.lst .stat c.states), .pd (.lst .tran c.trans)] 27] })) ?_
  refine ⟨fun hlt => ?_, fun hge => ?_⟩
  · have hk' : k < c.states.length := by have := of_decide_eq_true hlt; omega
    have hm : c.states.length ≤ maxLen := by unfold maxLen; omega
    refine ⟨⟨by omega, by omega, hm, h.tree⟩, fun hb => ?_, fun hb => ?_⟩
    · first
      | (exfalso; omega)
      | (rw [j7 (f := inF c) hb]; exact ⟨rfl, rfl⟩)
    · first
      | (exfalso; omega)
      | (rw [nA (f := inF c) hb, ba (aK hk' hm)]; exact ih (k + 1) (by omega) (by omega))
  · have := of_decide_eq_false hge
    first
    | (exfalso; omega)
    | exact M4 c h Γ c.vars.length 0 (by omega) (by omega)
theorem L9 (c : Chart) (vs ss : List Str) : ((gX c vs ss).any fun s : Str => !a8 s) = (!a8 c.name || !c.events.all a8 || !vs.all a8 || !ss.all a8) := by
 unfold gX
 rw [pn]
 simp only [List.flatten_cons, List.flatten_nil, List.append_nil, List.any_append, List.any_cons, List.any_nil, Bool.or_false, List.not_all_eq_any_not, Bool.or_assoc]
theorem Nt (c : Chart) (vs ss : List Str) : kK c vs ss = !(eG c.events || eG vs || eG ss) := by
 unfold kK
 rw [wm, wm, wm, Bool.not_or, Bool.not_or]
theorem py {e : Int} {b : Bool} (h : b = true) : b9 b e = 0 := if_pos h
theorem mV {e : Int} {b : Bool} (h : b = false) : b9 b e = e := if_neg (by rw [h]; decide)
theorem P8 (c : Chart) (out : List Str) (hout : out = c.vars.map fun v : Var => v.name) (hb : ∀ s ∈ c.states, s.entry.length ≤ 4398046511104 ∧ s.leave.length ≤ 4398046511104) (hva : c.vars.length ≤ 8) (hst : c.states.length ≤ 40) (htr : c.trans.length ≤ 48) (hnm : ∀ s ∈ c.states, a8 s.name = true) (Γ : Ctx) :
 J Tryz.prog 24 (aB Tryz.f24) Γ (Eq2 (.x (.i (q2E c out (c.states.map fun s : Ev.Stat => s.name) (dM c.states)))) []) [.ops [1, 1, 1, 1, 1, 0, 0] 9, .code [1, 1, 1, 1, 1, 0, 1], .code [1, 1, 1, 1, 1, 1]] ({ n := 184, fr := [(1, .x (.c (.loc 0 0))), (2, .i 0), (81, .p (.bool (eG c.events || eG out))), (82, .grd 81 false (.agg [.pd (.str c.name), .pd (.lst .str c.events), .pd (.lst .var c.vars), .pd (.lst .stat c.states), .pd (.lst .tran c.trans)]))], ck := [.cells [.pd (.str c.name), .pd (.lst .str c.events), .pd (.lst .var c.vars), .pd (.lst .stat c.states), .pd (.lst .tran c.trans)] 27] }) := by
 have no : ∀ {b : Bool}, b = false → ¬ b = true := fun h e => by rw [h] at e; cases e
 unfold q2E
 rw [Nt, ← jL]
 generalize hB : (eG c.events || eG out) = B
 cases B
 · refine J.on (cfg := gZ) eZ (q := some (c.states.length ≤ 1466015503701)) (by kernel_rfl) (by show c.states.length ≤ 1466015503701; omega) (?_ : J Tryz.prog 24 (aB Tryz.f24) Γ _ [.ops [1, 1, 1, 1, 1, 0, 0] 10, .code [1, 1, 1, 1, 1, 0, 1], .code [1, 1, 1, 1, 1, 1]] ({ n := 184, fr := [(1, .x (.c (.loc 0 0))), (2, .i 0), (81, .p (.bool false)), (82, .x (.agg [.pd (.str c.name), .pd (.lst .str c.events), .pd (.lst .var c.vars), .pd (.lst .stat c.states), .pd (.lst .tran c.trans)])), (83, .x (.c (.own 1)))], ck := [.cells [.pd (.str c.name), .pd (.lst .str c.events), .pd (.lst .var c.vars), .pd (.lst .stat c.states), .pd (.lst .tran c.trans)] 27, .own 9 .str (dG true c.states)] }))
   refine jg eZ Tryz.func24 (.ite (false || eG (dG true c.states)) (.ret (.i 3) []) (.need (c.states.length ≤ 1466015503701) (.ite (!ig c.states) (.ret (.i 9) []) (.stop [.code [1, 1, 1, 1, 1, 1, 1, 0, 1, 0, 0], .inLoop [1, 1, 1, 1, 1, 1, 1, 0, 1, 0, 0], .inBlock 2, .code [1, 1, 1, 1, 1, 1, 1, 1]] { n := 184, fr := [(1, .x (.c (.loc 0 0))), (2, .i 0), (5, .i 0)], ck := [.cells [.pd (.str c.name), .pd (.lst .str c.events), .pd (.lst .var c.vars), .pd (.lst .stat c.states), .pd (.lst .tran c.trans)] 27] })))) ?_
   rw [Bool.false_or]
   refine ⟨fun h => ?_, fun h => ⟨by omega, fun h2 => ?_, fun h2 => ?_⟩⟩
   · rw [h, Bool.not_true, mV rfl]; exact ⟨rfl, rfl⟩
   · have h3 : cm c.states = false := by rw [pE]; simpa using h2
     rw [h, Bool.not_false, py rfl]; unfold q3E; rw [h3]; exact ⟨rfl, rfl⟩
   · have h3 : cm c.states = true := by rw [pE]; simpa using h2
     rw [h, Bool.not_false, py rfl]; unfold q3E; rw [h3]
     rw [jL] at h
     exact ML c ⟨h3, (ya _).1 h, hva, hst, htr, hnm, hb⟩ Γ c.states.length 0 (by omega) (by omega)
 · refine J.off 2 9 (by kernel_rfl) (?_ : J Tryz.prog 24 (aB Tryz.f24) Γ _ [.ops [1, 1, 1, 1, 1, 0, 0] 11, .code [1, 1, 1, 1, 1, 0, 1], .code [1, 1, 1, 1, 1, 1]] ({ n := 184, fr := [(1, .x (.c (.loc 0 0))), (2, .i 0), (81, .p (.bool true)), (82, .grd 81 false (.agg [.pd (.str c.name), .pd (.lst .str c.events), .pd (.lst .var c.vars), .pd (.lst .stat c.states), .pd (.lst .tran c.trans)])), (83, .grd 81 false (.p (.bool false))), (84, .grd 81 false (.p (.bool false)))], ck := [.cells [.pd (.str c.name), .pd (.lst .str c.events), .pd (.lst .var c.vars), .pd (.lst .stat c.states), .pd (.lst .tran c.trans)] 27] }))
   refine jg eZ Tryz.func24 (.ite true (.ret (.i 3) []) (.need (c.states.length ≤ 1466015503701) (.ite (!ig c.states) (.ret (.i 9) []) (.stop [.code [1, 1, 1, 1, 1, 1, 1, 0, 1, 0, 0], .inLoop [1, 1, 1, 1, 1, 1, 1, 0, 1, 0, 0], .inBlock 2, .code [1, 1, 1, 1, 1, 1, 1, 1]] { n := 184, fr := [(1, .x (.c (.loc 0 0))), (2, .i 0), (5, .i 0)], ck := [.cells [.pd (.str c.name), .pd (.lst .str c.events), .pd (.lst .var c.vars), .pd (.lst .stat c.states), .pd (.lst .tran c.trans)] 27] })))) ?_
   refine ⟨fun _ => ?_, fun h => (by cases h)⟩
   rw [Bool.true_or, Bool.not_true, mV rfl]; exact ⟨rfl, rfl⟩
theorem P7 (c : Chart) (out : List Str) (hout : out = c.vars.map fun v : Var => v.name) (hb : ∀ s ∈ c.states, s.entry.length ≤ 4398046511104 ∧ s.leave.length ≤ 4398046511104) (hva : c.vars.length ≤ 8) (hst : c.states.length ≤ 40) (htr : c.trans.length ≤ 48) (Γ : Ctx) :
 J Tryz.prog 24 (aB Tryz.f24) Γ (Eq2 (.x (.i (q1E c out (c.states.map fun s : Ev.Stat => s.name) (dM c.states)))) []) [.ops [1, 1, 1, 1, 0, 0] 17, .code [1, 1, 1, 1, 0, 1], .code [1, 1, 1, 1, 1]] ({ n := 184, fr := [(1, .x (.c (.loc 0 0))), (2, .i 0), (3, .x (.c (.own 1))), (68, .p (.bool (!a8 c.name || !List.all c.events a8 || !List.all out a8))), (69, .grd 68 false (.agg [.pd (.str c.name), .pd (.lst .str c.events), .pd (.lst .var c.vars), .pd (.lst .stat c.states), .pd (.lst .tran c.trans)]))], ck := [.cells [.pd (.str c.name), .pd (.lst .str c.events), .pd (.lst .var c.vars), .pd (.lst .stat c.states), .pd (.lst .tran c.trans)] 27, .own 9 .str out] }) := by
 unfold q1E
 rw [L9, ← jL]
 generalize hB : (!a8 c.name || !c.events.all a8 || !out.all a8) = B
 cases B
 · refine J.on (cfg := gZ) eZ (q := some (c.states.length ≤ 1466015503701)) (by kernel_rfl) (by show c.states.length ≤ 1466015503701; omega) (?_ : J Tryz.prog 24 (aB Tryz.f24) Γ _ [.ops [1, 1, 1, 1, 0, 0] 18, .code [1, 1, 1, 1, 0, 1], .code [1, 1, 1, 1, 1]] ({ n := 184, fr := [(1, .x (.c (.loc 0 0))), (2, .i 0), (3, .x (.c (.own 1))), (68, .p (.bool false)), (69, .x (.agg [.pd (.str c.name), .pd (.lst .str c.events), .pd (.lst .var c.vars), .pd (.lst .stat c.states), .pd (.lst .tran c.trans)])), (70, .x (.c (.own 2)))], ck := [.cells [.pd (.str c.name), .pd (.lst .str c.events), .pd (.lst .var c.vars), .pd (.lst .stat c.states), .pd (.lst .tran c.trans)] 27, .own 9 .str out, .own 9 .str (dG true c.states)] }))
   refine jg eZ Tryz.func24 (.ite (false || !List.all (dG true c.states) a8) (.ret (.i 2) []) (.stop [.ops [1, 1, 1, 1, 1, 0, 0] 9, .code [1, 1, 1, 1, 1, 0, 1], .code [1, 1, 1, 1, 1, 1]] { n := 184, fr := [(1, .x (.c (.loc 0 0))), (2, .i 0), (81, .p (.bool (eG c.events || eG out))), (82, .grd 81 false (.agg [.pd (.str c.name), .pd (.lst .str c.events), .pd (.lst .var c.vars), .pd (.lst .stat c.states), .pd (.lst .tran c.trans)]))], ck := [.cells [.pd (.str c.name), .pd (.lst .str c.events), .pd (.lst .var c.vars), .pd (.lst .stat c.states), .pd (.lst .tran c.trans)] 27] })) ?_
   rw [Bool.false_or]
   refine ⟨fun h => ?_, fun h => ?_⟩
   · rw [h, Bool.not_true, mV rfl]; exact ⟨rfl, rfl⟩
   · rw [h, Bool.not_false, py rfl, jL]
     rw [jL] at h
     refine P8 c out hout hb hva hst htr (fun s hs => ?_) Γ
     have h2 : ((c.states.map fun s : Ev.Stat => s.name).all a8) = true := by simpa using h
     exact List.all_eq_true.1 h2 _ (List.mem_map.2 ⟨s, hs, rfl⟩)
 · refine J.off 2 17 (by kernel_rfl) (?_ : J Tryz.prog 24 (aB Tryz.f24) Γ _ [.ops [1, 1, 1, 1, 0, 0] 19, .code [1, 1, 1, 1, 0, 1], .code [1, 1, 1, 1, 1]] ({ n := 184, fr := [(1, .x (.c (.loc 0 0))), (2, .i 0), (3, .x (.c (.own 1))), (68, .p (.bool true)), (69, .grd 68 false (.agg [.pd (.str c.name), .pd (.lst .str c.events), .pd (.lst .var c.vars), .pd (.lst .stat c.states), .pd (.lst .tran c.trans)])), (70, .grd 68 false (.p (.bool false))), (71, .grd 68 false (.p (.bool false)))], ck := [.cells [.pd (.str c.name), .pd (.lst .str c.events), .pd (.lst .var c.vars), .pd (.lst .stat c.states), .pd (.lst .tran c.trans)] 27, .own 9 .str out] }))
   refine jg eZ Tryz.func24 (.ite true (.ret (.i 2) []) (.stop [.ops [1, 1, 1, 1, 1, 0, 0] 9, .code [1, 1, 1, 1, 1, 0, 1], .code [1, 1, 1, 1, 1, 1]] { n := 184, fr := [(1, .x (.c (.loc 0 0))), (2, .i 0), (81, .p (.bool (eG c.events || eG out))), (82, .grd 81 false (.agg [.pd (.str c.name), .pd (.lst .str c.events), .pd (.lst .var c.vars), .pd (.lst .stat c.states), .pd (.lst .tran c.trans)]))], ck := [.cells [.pd (.str c.name), .pd (.lst .str c.events), .pd (.lst .var c.vars), .pd (.lst .stat c.states), .pd (.lst .tran c.trans)] 27] })) ?_
   refine ⟨fun _ => ?_, fun h => (by cases h)⟩
   rw [Bool.true_or, Bool.not_true, mV rfl]; exact ⟨rfl, rfl⟩
theorem MF (c : Chart) (hb : ∀ s ∈ c.states, s.entry.length ≤ 4398046511104 ∧ s.leave.length ≤ 4398046511104) (hva : c.vars.length ≤ 8) (hst : c.states.length ≤ 40) (htr : c.trans.length ≤ 48) (Γ : Ctx) : ∀ (n k : Nat), c.vars.length - k ≤ n → k ≤ c.vars.length →
 J Tryz.prog 24 (aB Tryz.f24) Γ (Eq2 (.x (.i (q1E c (c.vars.map fun v : Var => v.name) (c.states.map fun s : Ev.Stat => s.name) (dM c.states)))) []) [.code [1, 1, 1, 0, 1, 0, 0], .inLoop [1, 1, 1, 0, 1, 0, 0], .inBlock 0, .code [1, 1, 1, 1]] ({ n := 184, fr := [(1, .x (.c (.loc 0 0))), (2, .i 0), (3, .x (.c (.own 1))), (4, .i ((k : Int)))], ck := [.cells [.pd (.str c.name), .pd (.lst .str c.events), .pd (.lst .var c.vars), .pd (.lst .stat c.states), .pd (.lst .tran c.trans)] 27, .own 9 .str ((c.vars.take k).map fun v : Var => v.name)] }) := by
 have hm : c.vars.length ≤ maxLen := by unfold maxLen; omega
 intro n
 induction n with
 | zero => ?_
 | succ n ih => ?_
 all_goals
  intro k hn hk
  generalize hout : (c.vars.take k).map (fun v : Var => v.name) = out
  refine jg eZ Tryz.func24 (.ite (decide ((k : Int) < (c.vars.length : Int))) (.need (inRg k c.vars.length) (.need (room (List.length (out ++ [Var.name (ETy.get .var c.vars k)])) 16) (.stop [.code [1, 1, 1, 0, 1, 0, 0], .inLoop [1, 1, 1, 0, 1, 0, 0], .inBlock 0, .code [1, 1, 1, 1]] { n := 184, fr := [(1, .x (.c (.loc 0 0))), (2, .i 0), (3, .x (.c (.own 1))), (4, .i (IntKind.wrap .i64 ((k : Int) + 1)))], ck := [.cells [.pd (.str c.name), .pd (.lst .str c.events), .pd (.lst .var c.vars), .pd (.lst .stat c.states), .pd (.lst .tran c.trans)] 27, .own 9 .str (out ++ [Var.name (ETy.get .var c.vars k)])] }))) (.stop [.ops [1, 1, 1, 1, 0, 0] 17, .code [1, 1, 1, 1, 0, 1], .code [1, 1, 1, 1, 1]] { n := 184, fr := [(1, .x (.c (.loc 0 0))), (2, .i 0), (3, .x (.c (.own 1))), (68, .p (.bool (!a8 c.name || !List.all c.events a8 || !List.all out a8))), (69, .grd 68 false (.agg [.pd (.str c.name), .pd (.lst .str c.events), .pd (.lst .var c.vars), .pd (.lst .stat c.states), .pd (.lst .tran c.trans)]))], ck := [.cells [.pd (.str c.name), .pd (.lst .str c.events), .pd (.lst .var c.vars), .pd (.lst .stat c.states), .pd (.lst .tran c.trans)] 27, .own 9 .str out] })) ?_
  refine ⟨fun hlt => ?_, fun hge => ?_⟩
  · have hk' : k < c.vars.length := by have := of_decide_eq_true hlt; omega
    have hs := rq (t := .var) (fun v : Var => v.name) hk'
    rw [hout] at hs
    refine ⟨⟨by omega, by omega⟩, ?_⟩
    rw [hs]
    refine ⟨rj _ (by rw [List.length_map, List.length_take]; omega), ?_⟩
    rw [ba (aK hk' hm)]
    first
    | (exfalso; omega)
    | exact ih (k + 1) (by omega) (by omega)
  · have hke : k = c.vars.length := by have := of_decide_eq_false hge; omega
    subst hke
    rw [List.take_of_length_le (Nat.le_refl _)] at hout
    rw [hout]
    exact P7 c out hout.symm hb hva hst htr Γ
theorem CW (c : Chart) (hb : ∀ s ∈ c.states, s.entry.length ≤ 4398046511104 ∧ s.leave.length ≤ 4398046511104) : ag Tryz.prog 24 [.e .chart c] [] (.x (.i (br c))) [] := by
 refine dg eZ Tryz.func24 (.ite (decide ((c.events.length : Int) > 12) || decide ((c.vars.length : Int) > 8) || decide ((c.states.length : Int) > 40) || decide ((c.trans.length : Int) > 48)) (.ret (.i 4) []) (.stop [.code [1, 1, 1, 0, 1, 0, 0], .inLoop [1, 1, 1, 0, 1, 0, 0], .inBlock 0, .code [1, 1, 1, 1]] { n := 184, fr := [(1, .x (.c (.loc 0 0))), (2, .i 0), (3, .p (.v (Value.slice none 0 0))), (4, .i 0)], ck := [.cells [.pd (.str c.name), .pd (.lst .str c.events), .pd (.lst .var c.vars), .pd (.lst .stat c.states), .pd (.lst .tran c.trans)] 27] })) fun Γ => ?_
 unfold br q0E
 have e : jv c = !(decide ((c.events.length : Int) > 12) || decide ((c.vars.length : Int) > 8) || decide ((c.states.length : Int) > 40) || decide ((c.trans.length : Int) > 48)) := by
  rw [Bool.eq_iff_iff, eP]
  simp only [Bool.not_eq_true', Bool.or_eq_false_iff, decide_eq_false_iff_not]
  omega
 rw [e]
 refine ⟨fun h => ?_, fun h => ?_⟩
 · rw [h, Bool.not_true, mV rfl]; exact ⟨rfl, rfl⟩
 · rw [h, Bool.not_false, py rfl]
   simp only [Bool.or_eq_false_iff, decide_eq_false_iff_not] at h
   refine J.nilOwn 3 9 .str rfl (by kernel_rfl) ?_
   exact MF c hb (by omega) (by omega) (by omega) Γ c.vars.length 0 (by omega) (by omega)
def rP : Ent := (24, fun
 | [.agg [.pd (.str a), .pd (.lst .str b), .pd (.lst .var c), .pd (.lst .stat d), .pd (.lst .tran e)]], [] => some (some (∀ s ∈ d, s.entry.length ≤ 4398046511104 ∧ s.leave.length ≤ 4398046511104), .x (.c (.pd (.int .i64 (br ⟨a, b, c, d, e⟩)))), [])
 | _, _ => none)
theorem Fg : EntOk Tryz.prog rP := entOk fun vs ck => by
 unfold rP; dsimp only; split
 · rename_i a b c d e; exact entS fun hp => CW ⟨a, b, c, d, e⟩ hp
 · exact entN
end Go.Proofs.YtlhgnjmdopjpeaaGreatDoor

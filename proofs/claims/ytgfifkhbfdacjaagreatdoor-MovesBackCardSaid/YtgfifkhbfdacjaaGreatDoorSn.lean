/- Contracts: the document's Check. Conditions: sizes of blocks. -/
import Derived.Test.YtgfifkhbfdacjaaGreatDoorSm
import Derived.Test.YtgfifkhbfdacjaaGreatDoorNh
namespace Go.Proofs.YtgfifkhbfdacjaaGreatDoor
open Go Go.Ev
set_option maxRecDepth 100000
def fK : Cfg := ⟨aY, [nL, lC, l3, oQ, Av, qM, vh, xC, jE, A9]⟩
theorem dQ : ag Tryz.prog fK.tab := (ag.cons ml (ag.cons vB (ag.cons rF (ag.cons AE (ag.cons Jl (ag.cons DE (ag.cons Hd (ag.cons Ap (ag.cons jT (ag.cons Ky ag.nil))))))))))
theorem iA {f : Nat → Int} {k n : Nat} {r : Int} (h : (f k != 0) = true) : fU (bQ f k (n + 1)) r = f k := by
 rw [bQ, if_pos h, fW h]
theorem k8 {f : Nat → Int} {k n : Nat} {r : Int} (h : (f k != 0) = false) : fU (bQ f k (n + 1)) r = fU (bQ f (k + 1) n) r := by
 rw [bQ, if_neg (by rw [h]; decide)]
def inF (c : Chart) (k : Nat) : Int := dd c.states k
def vaF (c : Chart) (k : Nat) : Int := dY (ETy.get .var c.vars k)
def blF (c : Chart) (k : Nat) : Int := cQ c (ETy.get .stat c.states k)
def trF (c : Chart) (k : Nat) : Int := cK c k (c6 c.states) (ETy.get .tran c.trans k)
structure Sound (c : Chart) : Prop where
 tree : bZ c.states = true
 one : (c.states.map fun s : Ev.Stat => s.name).Nodup
 va : c.vars.length ≤ 8
 st : c.states.length ≤ 40
 tr : c.trans.length ≤ 48
 names : ∀ s ∈ c.states, aZ s.name = true
 bulk : ∀ s ∈ c.states, s.entry.length ≤ 4398046511104 ∧ s.leave.length ≤ 4398046511104
theorem GP (c : Chart) (h : Sound c) (Γ : Ctx) : ∀ (n k : Nat), c.trans.length - k = n → k ≤ c.trans.length →
 J Tryz.prog 32 (au Tryz.f32) Γ (Eq2 (.x (.i (fU (bQ (trF c) k n) 0))) []) [.code [1, 1, 1, 1, 1, 1, 1, 1, 1, 1, 0, 1, 0, 0], .inLoop [1, 1, 1, 1, 1, 1, 1, 1, 1, 1, 0, 1, 0, 0], .inBlock 8, .code [1, 1, 1, 1, 1, 1, 1, 1, 1, 1, 1]] ({ n := 184, fr := [(1, .x (.c (.loc 0 0))), (2, .i 0), (13, .i ((k : Int)))], ck := [.cells [.pd (.str c.name), .pd (.lst .str c.events), .pd (.lst .var c.vars), .pd (.lst .stat c.states), .pd (.lst .tran c.trans)] 27] }) := by
 have ht := h.tr
 have hs := h.st
 intro n
 induction n with
 | zero => ?_
 | succ n ih => ?_
 all_goals
  intro k hn hk
  refine jg dQ Tryz.func32 (.ite (decide ((k : Int) < (c.trans.length : Int))) (.need ((0 : Int) ≤ (k : Int) ∧ (k : Int) < (c.trans.length : Int) ∧ c.trans.length ≤ maxLen ∧ bZ c.states = true ∧ List.Nodup (List.map (fun s => s.name) c.states) ∧ c.states.length ≤ 1466015503701 ∧ ∀ (s : ETy.den .stat), s ∈ c.states → aZ s.name = true) (.ite (cK c k (c6 c.states) (ETy.get .tran c.trans k) != (0 : Int)) (.ret (.i (cK c k (c6 c.states) (ETy.get .tran c.trans k))) []) (.stop [.code [1, 1, 1, 1, 1, 1, 1, 1, 1, 1, 0, 1, 0, 0], .inLoop [1, 1, 1, 1, 1, 1, 1, 1, 1, 1, 0, 1, 0, 0], .inBlock 8, .code [1, 1, 1, 1, 1, 1, 1, 1, 1, 1, 1]] { n := 184, fr := [(1, .x (.c (.loc 0 0))), (2, .i 0), (13, .i (IntKind.wrap .i64 ((k : Int) + 1)))], ck := [.cells [.pd (.str c.name), .pd (.lst .str c.events), .pd (.lst .var c.vars), .pd (.lst .stat c.states), .pd (.lst .tran c.trans)] 27] }))) (.ret (.i 0) [])) ?_
  refine ⟨fun hlt => ?_, fun hge => ?_⟩
  · have hk' : k < c.trans.length := by have := of_decide_eq_true hlt; omega
    have hm : c.trans.length ≤ maxLen := by unfold maxLen; omega
    refine ⟨⟨by omega, by omega, hm, h.tree, h.one, by omega, h.names⟩, fun hb => ?_, fun hb => ?_⟩
    · first
      | (exfalso; omega)
      | (rw [iA (f := trF c) hb]; exact ⟨rfl, rfl⟩)
    · first
      | (exfalso; omega)
      | (rw [k8 (f := trF c) hb, aX (aE hk' hm)]; exact ih (k + 1) (by omega) (by omega))
  · have := of_decide_eq_false hge
    first
    | (exfalso; omega)
    | exact ⟨rfl, rfl⟩
theorem E5 (c : Chart) (s : Ev.Stat) (h : s.entry.length ≤ 4398046511104 ∧ s.leave.length ≤ 4398046511104) : cQ c s =
 if (aO s.kind && (decide ((s.entry.length : Int) > 0) || decide ((s.leave.length : Int) > 0)) || s.kind == 4 && decide ((s.leave.length : Int) > 0)) = true then 1
 else if (b9 c.events c.vars s.entry != 0) = true then b9 c.events c.vars s.entry else b9 c.events c.vars s.leave := by
 unfold cQ
 have e : decide (IntKind.wrap .i64 ((s.entry.length : Int) + (s.leave.length : Int)) > 0) = (decide ((s.entry.length : Int) > 0) || decide ((s.leave.length : Int) > 0)) := by
  rw [cg (by omega) (by omega), Bool.eq_iff_iff]
  simp only [Bool.or_eq_true, decide_eq_true_eq]
  omega
 rw [e]
theorem Hm (c : Chart) (h : Sound c) (Γ : Ctx) : ∀ (n k : Nat), c.states.length - k = n → k ≤ c.states.length →
 J Tryz.prog 32 (au Tryz.f32) Γ (Eq2 (.x (.i (fU (bQ (blF c) k n) (q7E c (c6 c.states))))) []) [.code [1, 1, 1, 1, 1, 1, 1, 1, 1, 0, 1, 0, 0], .inLoop [1, 1, 1, 1, 1, 1, 1, 1, 1, 0, 1, 0, 0], .inBlock 6, .code [1, 1, 1, 1, 1, 1, 1, 1, 1, 1]] ({ n := 184, fr := [(1, .x (.c (.loc 0 0))), (2, .i 0), (9, .i ((k : Int)))], ck := [.cells [.pd (.str c.name), .pd (.lst .str c.events), .pd (.lst .var c.vars), .pd (.lst .stat c.states), .pd (.lst .tran c.trans)] 27] }) := by
 have hs := h.st
 have no : ∀ {b : Bool}, b = false → ¬ b = true := fun h e => by rw [h] at e; cases e
 intro n
 induction n with
 | zero => ?_
 | succ n ih => ?_
 all_goals
  intro k hn hk
  refine jg dQ Tryz.func32 (.ite (decide ((k : Int) < (c.states.length : Int))) (.need (inRg k c.states.length) (.ite (aO (Stat.kind (ETy.get .stat c.states k)) && (decide ((↑(List.length (Stat.entry (ETy.get .stat c.states k))) : Int) > 0) || decide ((↑(List.length (Stat.leave (ETy.get .stat c.states k))) : Int) > 0)) || Stat.kind (ETy.get .stat c.states k) == (4 : Int) && decide ((↑(List.length (Stat.leave (ETy.get .stat c.states k))) : Int) > 0)) (.ret (.i 1) []) (.ite (b9 c.events c.vars (Stat.entry (ETy.get .stat c.states k)) != (0 : Int)) (.ret (.i (b9 c.events c.vars (Stat.entry (ETy.get .stat c.states k)))) []) (.ite (b9 c.events c.vars (Stat.leave (ETy.get .stat c.states k)) != (0 : Int)) (.ret (.i (b9 c.events c.vars (Stat.leave (ETy.get .stat c.states k)))) []) (.stop [.code [1, 1, 1, 1, 1, 1, 1, 1, 1, 0, 1, 0, 0], .inLoop [1, 1, 1, 1, 1, 1, 1, 1, 1, 0, 1, 0, 0], .inBlock 6, .code [1, 1, 1, 1, 1, 1, 1, 1, 1, 1]] { n := 184, fr := [(1, .x (.c (.loc 0 0))), (2, .i 0), (9, .i (IntKind.wrap .i64 ((k : Int) + 1)))], ck := [.cells [.pd (.str c.name), .pd (.lst .str c.events), .pd (.lst .var c.vars), .pd (.lst .stat c.states), .pd (.lst .tran c.trans)] 27] }))))) (.stop [.code [1, 1, 1, 1, 1, 1, 1, 1, 1, 1, 0, 1, 0, 0], .inLoop [1, 1, 1, 1, 1, 1, 1, 1, 1, 1, 0, 1, 0, 0], .inBlock 8, .code [1, 1, 1, 1, 1, 1, 1, 1, 1, 1, 1]] { n := 184, fr := [(1, .x (.c (.loc 0 0))), (2, .i 0), (13, .i 0)], ck := [.cells [.pd (.str c.name), .pd (.lst .str c.events), .pd (.lst .var c.vars), .pd (.lst .stat c.states), .pd (.lst .tran c.trans)] 27] })) ?_
  refine ⟨fun hlt => ?_, fun hge => ?_⟩
  · have hk' : k < c.states.length := by have := of_decide_eq_true hlt; omega
    have hm : c.states.length ≤ maxLen := by unfold maxLen; omega
    have e : blF c k = _ := E5 c (ETy.get .stat c.states k) (h.bulk _ (by rw [ETy.get_eq (t := .stat) (List.getElem?_eq_getElem hk')]; exact List.getElem_mem hk'))
    refine ⟨⟨by omega, by omega⟩, fun hb => ?_, fun hb => ⟨fun h2 => ?_, fun h2 => ⟨fun h3 => ?_, fun h3 => ?_⟩⟩⟩
    · rw [if_pos hb] at e
      first
      | (exfalso; omega)
      | (rw [iA (f := blF c) (by rw [e]; rfl), e]; exact ⟨rfl, rfl⟩)
    · rw [if_neg (no hb), if_pos h2] at e
      first
      | (exfalso; omega)
      | (rw [iA (f := blF c) (by rw [e]; exact h2), e]; exact ⟨rfl, rfl⟩)
    · rw [if_neg (no hb), if_neg (no h2)] at e
      first
      | (exfalso; omega)
      | (rw [iA (f := blF c) (by rw [e]; exact h3), e]; exact ⟨rfl, rfl⟩)
    · rw [if_neg (no hb), if_neg (no h2)] at e
      first
      | (exfalso; omega)
      | (rw [k8 (f := blF c) (by rw [e]; exact h3), aX (aE hk' hm)]; exact ih (k + 1) (by omega) (by omega))
  · have := of_decide_eq_false hge
    first
    | (exfalso; omega)
    | exact GP c h Γ c.trans.length 0 (by omega) (by omega)
theorem Hy (c : Chart) (h : Sound c) (Γ : Ctx) : ∀ (n k : Nat), c.vars.length - k = n → k ≤ c.vars.length →
 J Tryz.prog 32 (au Tryz.f32) Γ (Eq2 (.x (.i (fU (bQ (vaF c) k n) (q6E c (c6 c.states))))) []) [.code [1, 1, 1, 1, 1, 1, 1, 1, 0, 1, 0, 0], .inLoop [1, 1, 1, 1, 1, 1, 1, 1, 0, 1, 0, 0], .inBlock 4, .code [1, 1, 1, 1, 1, 1, 1, 1, 1]] ({ n := 184, fr := [(1, .x (.c (.loc 0 0))), (2, .i 0), (7, .i ((k : Int)))], ck := [.cells [.pd (.str c.name), .pd (.lst .str c.events), .pd (.lst .var c.vars), .pd (.lst .stat c.states), .pd (.lst .tran c.trans)] 27] }) := by
 have hs := h.va
 intro n
 induction n with
 | zero => ?_
 | succ n ih => ?_
 all_goals
  intro k hn hk
  refine jg dQ Tryz.func32 (.ite (decide ((k : Int) < (c.vars.length : Int))) (.need (inRg k c.vars.length) (.ite (dY (ETy.get .var c.vars k) != (0 : Int)) (.ret (.i (dY (ETy.get .var c.vars k))) []) (.stop [.code [1, 1, 1, 1, 1, 1, 1, 1, 0, 1, 0, 0], .inLoop [1, 1, 1, 1, 1, 1, 1, 1, 0, 1, 0, 0], .inBlock 4, .code [1, 1, 1, 1, 1, 1, 1, 1, 1]] { n := 184, fr := [(1, .x (.c (.loc 0 0))), (2, .i 0), (7, .i (IntKind.wrap .i64 ((k : Int) + 1)))], ck := [.cells [.pd (.str c.name), .pd (.lst .str c.events), .pd (.lst .var c.vars), .pd (.lst .stat c.states), .pd (.lst .tran c.trans)] 27] }))) (.stop [.code [1, 1, 1, 1, 1, 1, 1, 1, 1, 0, 1, 0, 0], .inLoop [1, 1, 1, 1, 1, 1, 1, 1, 1, 0, 1, 0, 0], .inBlock 6, .code [1, 1, 1, 1, 1, 1, 1, 1, 1, 1]] { n := 184, fr := [(1, .x (.c (.loc 0 0))), (2, .i 0), (9, .i 0)], ck := [.cells [.pd (.str c.name), .pd (.lst .str c.events), .pd (.lst .var c.vars), .pd (.lst .stat c.states), .pd (.lst .tran c.trans)] 27] })) ?_
  refine ⟨fun hlt => ?_, fun hge => ?_⟩
  · have hk' : k < c.vars.length := by have := of_decide_eq_true hlt; omega
    have hm : c.vars.length ≤ maxLen := by unfold maxLen; omega
    refine ⟨⟨by omega, by omega⟩, fun hb => ?_, fun hb => ?_⟩
    · first
      | (exfalso; omega)
      | (rw [iA (f := vaF c) hb]; exact ⟨rfl, rfl⟩)
    · first
      | (exfalso; omega)
      | (rw [k8 (f := vaF c) hb, aX (aE hk' hm)]; exact ih (k + 1) (by omega) (by omega))
  · have := of_decide_eq_false hge
    first
    | (exfalso; omega)
    | exact Hm c h Γ c.states.length 0 (by omega) (by omega)
theorem H4 (c : Chart) (h : Sound c) (Γ : Ctx) : ∀ (n k : Nat), c.states.length - k = n → k ≤ c.states.length →
 J Tryz.prog 32 (au Tryz.f32) Γ (Eq2 (.x (.i (fU (bQ (inF c) k n) (q5E c (c6 c.states))))) []) [.code [1, 1, 1, 1, 1, 1, 1, 0, 1, 0, 0], .inLoop [1, 1, 1, 1, 1, 1, 1, 0, 1, 0, 0], .inBlock 2, .code [1, 1, 1, 1, 1, 1, 1, 1]] ({ n := 184, fr := [(1, .x (.c (.loc 0 0))), (2, .i 0), (5, .i ((k : Int)))], ck := [.cells [.pd (.str c.name), .pd (.lst .str c.events), .pd (.lst .var c.vars), .pd (.lst .stat c.states), .pd (.lst .tran c.trans)] 27] }) := by
 have hs := h.st
 intro n
 induction n with
 | zero => ?_
 | succ n ih => ?_
 all_goals
  intro k hn hk
  refine jg dQ Tryz.func32 (.ite (decide ((k : Int) < (c.states.length : Int))) (.need ((0 : Int) ≤ (k : Int) ∧ (k : Int) < (c.states.length : Int) ∧ c.states.length ≤ maxLen ∧ bZ c.states = true) (.ite (dd c.states k != (0 : Int)) (.ret (.i (dd c.states k)) []) (.stop [.code [1, 1, 1, 1, 1, 1, 1, 0, 1, 0, 0], .inLoop [1, 1, 1, 1, 1, 1, 1, 0, 1, 0, 0], .inBlock 2, .code [1, 1, 1, 1, 1, 1, 1, 1]] { n := 184, fr := [(1, .x (.c (.loc 0 0))), (2, .i 0), (5, .i (IntKind.wrap .i64 ((k : Int) + 1)))], ck := [.cells [.pd (.str c.name), .pd (.lst .str c.events), .pd (.lst .var c.vars), .pd (.lst .stat c.states), .pd (.lst .tran c.trans)] 27] }))) (.stop [.code [1, 1, 1, 1, 1, 1, 1, 1, 0, 1, 0, 0], .inLoop [1, 1, 1, 1, 1, 1, 1, 1, 0, 1, 0, 0], .inBlock 4, .code [1, 1, 1, 1, 1, 1, 1, 1, 1]] { n := 184, fr := [(1, .x (.c (.loc 0 0))), (2, .i 0), (7, .i 0)], ck := [.cells [.pd (.str c.name), .pd (.lst .str c.events), .pd (.lst .var c.vars), .pd (.lst .stat c.states), .pd (.lst .tran c.trans)] 27] })) ?_
  refine ⟨fun hlt => ?_, fun hge => ?_⟩
  · have hk' : k < c.states.length := by have := of_decide_eq_true hlt; omega
    have hm : c.states.length ≤ maxLen := by unfold maxLen; omega
    refine ⟨⟨by omega, by omega, hm, h.tree⟩, fun hb => ?_, fun hb => ?_⟩
    · first
      | (exfalso; omega)
      | (rw [iA (f := inF c) hb]; exact ⟨rfl, rfl⟩)
    · first
      | (exfalso; omega)
      | (rw [k8 (f := inF c) hb, aX (aE hk' hm)]; exact ih (k + 1) (by omega) (by omega))
  · have := of_decide_eq_false hge
    first
    | (exfalso; omega)
    | exact Hy c h Γ c.vars.length 0 (by omega) (by omega)
theorem Il (c : Chart) (vs ss : List Str) : ((fF c vs ss).any fun s : Str => !aZ s) = (!aZ c.name || !c.events.all aZ || !vs.all aZ || !ss.all aZ) := by
 unfold fF
 rw [mR]
 simp only [List.flatten_cons, List.flatten_nil, List.append_nil, List.any_append, List.any_cons, List.any_nil, Bool.or_false, List.not_all_eq_any_not, Bool.or_assoc]
theorem Im (c : Chart) (vs ss : List Str) : iV c vs ss = !(dx c.events || dx vs || dx ss) := by
 unfold iV
 rw [r3, r3, r3, Bool.not_or, Bool.not_or]
theorem mB {e : Int} {b : Bool} (h : b = true) : bT b e = 0 := if_pos h
theorem kS {e : Int} {b : Bool} (h : b = false) : bT b e = e := if_neg (by rw [h]; decide)
theorem Kr (c : Chart) (out : List Str) (hout : out = c.vars.map fun v : Var => v.name) (hb : ∀ s ∈ c.states, s.entry.length ≤ 4398046511104 ∧ s.leave.length ≤ 4398046511104) (hva : c.vars.length ≤ 8) (hst : c.states.length ≤ 40) (htr : c.trans.length ≤ 48) (hnm : ∀ s ∈ c.states, aZ s.name = true) (Γ : Ctx) :
 J Tryz.prog 32 (au Tryz.f32) Γ (Eq2 (.x (.i (q2E c out (c.states.map fun s : Ev.Stat => s.name) (c6 c.states)))) []) [.ops [1, 1, 1, 1, 1, 0, 0] 9, .code [1, 1, 1, 1, 1, 0, 1], .code [1, 1, 1, 1, 1, 1]] ({ n := 184, fr := [(1, .x (.c (.loc 0 0))), (2, .i 0), (81, .p (.bool (dx c.events || dx out))), (82, .grd 81 false (.agg [.pd (.str c.name), .pd (.lst .str c.events), .pd (.lst .var c.vars), .pd (.lst .stat c.states), .pd (.lst .tran c.trans)]))], ck := [.cells [.pd (.str c.name), .pd (.lst .str c.events), .pd (.lst .var c.vars), .pd (.lst .stat c.states), .pd (.lst .tran c.trans)] 27] }) := by
 have no : ∀ {b : Bool}, b = false → ¬ b = true := fun h e => by rw [h] at e; cases e
 unfold q2E
 rw [Im, ← hZ]
 generalize hB : (dx c.events || dx out) = B
 cases B
 · refine J.on (cfg := fK) dQ (q := some (c.states.length ≤ 1466015503701)) (by kernel_rfl) (by show c.states.length ≤ 1466015503701; omega) (?_ : J Tryz.prog 32 (au Tryz.f32) Γ _ [.ops [1, 1, 1, 1, 1, 0, 0] 10, .code [1, 1, 1, 1, 1, 0, 1], .code [1, 1, 1, 1, 1, 1]] ({ n := 184, fr := [(1, .x (.c (.loc 0 0))), (2, .i 0), (81, .p (.bool false)), (82, .x (.agg [.pd (.str c.name), .pd (.lst .str c.events), .pd (.lst .var c.vars), .pd (.lst .stat c.states), .pd (.lst .tran c.trans)])), (83, .x (.c (.own 1)))], ck := [.cells [.pd (.str c.name), .pd (.lst .str c.events), .pd (.lst .var c.vars), .pd (.lst .stat c.states), .pd (.lst .tran c.trans)] 27, .own 9 .str (cX true c.states)] }))
   refine jg dQ Tryz.func32 (.ite (false || dx (cX true c.states)) (.ret (.i 3) []) (.need (c.states.length ≤ 1466015503701) (.ite (!fH c.states) (.ret (.i 9) []) (.stop [.code [1, 1, 1, 1, 1, 1, 1, 0, 1, 0, 0], .inLoop [1, 1, 1, 1, 1, 1, 1, 0, 1, 0, 0], .inBlock 2, .code [1, 1, 1, 1, 1, 1, 1, 1]] { n := 184, fr := [(1, .x (.c (.loc 0 0))), (2, .i 0), (5, .i 0)], ck := [.cells [.pd (.str c.name), .pd (.lst .str c.events), .pd (.lst .var c.vars), .pd (.lst .stat c.states), .pd (.lst .tran c.trans)] 27] })))) ?_
   rw [Bool.false_or]
   refine ⟨fun h => ?_, fun h => ⟨by omega, fun h2 => ?_, fun h2 => ?_⟩⟩
   · rw [h, Bool.not_true, kS rfl]; exact ⟨rfl, rfl⟩
   · have h3 : bZ c.states = false := by rw [mU]; simpa using h2
     rw [h, Bool.not_false, mB rfl]; unfold q3E; rw [h3]; exact ⟨rfl, rfl⟩
   · have h3 : bZ c.states = true := by rw [mU]; simpa using h2
     rw [h, Bool.not_false, mB rfl]; unfold q3E; rw [h3]
     rw [hZ] at h
     exact H4 c ⟨h3, (td _).1 h, hva, hst, htr, hnm, hb⟩ Γ c.states.length 0 (by omega) (by omega)
 · refine J.off 2 9 (by kernel_rfl) (?_ : J Tryz.prog 32 (au Tryz.f32) Γ _ [.ops [1, 1, 1, 1, 1, 0, 0] 11, .code [1, 1, 1, 1, 1, 0, 1], .code [1, 1, 1, 1, 1, 1]] ({ n := 184, fr := [(1, .x (.c (.loc 0 0))), (2, .i 0), (81, .p (.bool true)), (82, .grd 81 false (.agg [.pd (.str c.name), .pd (.lst .str c.events), .pd (.lst .var c.vars), .pd (.lst .stat c.states), .pd (.lst .tran c.trans)])), (83, .grd 81 false (.p (.bool false))), (84, .grd 81 false (.p (.bool false)))], ck := [.cells [.pd (.str c.name), .pd (.lst .str c.events), .pd (.lst .var c.vars), .pd (.lst .stat c.states), .pd (.lst .tran c.trans)] 27] }))
   refine jg dQ Tryz.func32 (.ite true (.ret (.i 3) []) (.need (c.states.length ≤ 1466015503701) (.ite (!fH c.states) (.ret (.i 9) []) (.stop [.code [1, 1, 1, 1, 1, 1, 1, 0, 1, 0, 0], .inLoop [1, 1, 1, 1, 1, 1, 1, 0, 1, 0, 0], .inBlock 2, .code [1, 1, 1, 1, 1, 1, 1, 1]] { n := 184, fr := [(1, .x (.c (.loc 0 0))), (2, .i 0), (5, .i 0)], ck := [.cells [.pd (.str c.name), .pd (.lst .str c.events), .pd (.lst .var c.vars), .pd (.lst .stat c.states), .pd (.lst .tran c.trans)] 27] })))) ?_
   refine ⟨fun _ => ?_, fun h => (by cases h)⟩
   rw [Bool.true_or, Bool.not_true, kS rfl]; exact ⟨rfl, rfl⟩
theorem Ke (c : Chart) (out : List Str) (hout : out = c.vars.map fun v : Var => v.name) (hb : ∀ s ∈ c.states, s.entry.length ≤ 4398046511104 ∧ s.leave.length ≤ 4398046511104) (hva : c.vars.length ≤ 8) (hst : c.states.length ≤ 40) (htr : c.trans.length ≤ 48) (Γ : Ctx) :
 J Tryz.prog 32 (au Tryz.f32) Γ (Eq2 (.x (.i (q1E c out (c.states.map fun s : Ev.Stat => s.name) (c6 c.states)))) []) [.ops [1, 1, 1, 1, 0, 0] 17, .code [1, 1, 1, 1, 0, 1], .code [1, 1, 1, 1, 1]] ({ n := 184, fr := [(1, .x (.c (.loc 0 0))), (2, .i 0), (3, .x (.c (.own 1))), (68, .p (.bool (!aZ c.name || !List.all c.events aZ || !List.all out aZ))), (69, .grd 68 false (.agg [.pd (.str c.name), .pd (.lst .str c.events), .pd (.lst .var c.vars), .pd (.lst .stat c.states), .pd (.lst .tran c.trans)]))], ck := [.cells [.pd (.str c.name), .pd (.lst .str c.events), .pd (.lst .var c.vars), .pd (.lst .stat c.states), .pd (.lst .tran c.trans)] 27, .own 9 .str out] }) := by
 unfold q1E
 rw [Il, ← hZ]
 generalize hB : (!aZ c.name || !c.events.all aZ || !out.all aZ) = B
 cases B
 · refine J.on (cfg := fK) dQ (q := some (c.states.length ≤ 1466015503701)) (by kernel_rfl) (by show c.states.length ≤ 1466015503701; omega) (?_ : J Tryz.prog 32 (au Tryz.f32) Γ _ [.ops [1, 1, 1, 1, 0, 0] 18, .code [1, 1, 1, 1, 0, 1], .code [1, 1, 1, 1, 1]] ({ n := 184, fr := [(1, .x (.c (.loc 0 0))), (2, .i 0), (3, .x (.c (.own 1))), (68, .p (.bool false)), (69, .x (.agg [.pd (.str c.name), .pd (.lst .str c.events), .pd (.lst .var c.vars), .pd (.lst .stat c.states), .pd (.lst .tran c.trans)])), (70, .x (.c (.own 2)))], ck := [.cells [.pd (.str c.name), .pd (.lst .str c.events), .pd (.lst .var c.vars), .pd (.lst .stat c.states), .pd (.lst .tran c.trans)] 27, .own 9 .str out, .own 9 .str (cX true c.states)] }))
   refine jg dQ Tryz.func32 (.ite (false || !List.all (cX true c.states) aZ) (.ret (.i 2) []) (.stop [.ops [1, 1, 1, 1, 1, 0, 0] 9, .code [1, 1, 1, 1, 1, 0, 1], .code [1, 1, 1, 1, 1, 1]] { n := 184, fr := [(1, .x (.c (.loc 0 0))), (2, .i 0), (81, .p (.bool (dx c.events || dx out))), (82, .grd 81 false (.agg [.pd (.str c.name), .pd (.lst .str c.events), .pd (.lst .var c.vars), .pd (.lst .stat c.states), .pd (.lst .tran c.trans)]))], ck := [.cells [.pd (.str c.name), .pd (.lst .str c.events), .pd (.lst .var c.vars), .pd (.lst .stat c.states), .pd (.lst .tran c.trans)] 27] })) ?_
   rw [Bool.false_or]
   refine ⟨fun h => ?_, fun h => ?_⟩
   · rw [h, Bool.not_true, kS rfl]; exact ⟨rfl, rfl⟩
   · rw [h, Bool.not_false, mB rfl, hZ]
     rw [hZ] at h
     refine Kr c out hout hb hva hst htr (fun s hs => ?_) Γ
     have h2 : ((c.states.map fun s : Ev.Stat => s.name).all aZ) = true := by simpa using h
     exact List.all_eq_true.1 h2 _ (List.mem_map.2 ⟨s, hs, rfl⟩)
 · refine J.off 2 17 (by kernel_rfl) (?_ : J Tryz.prog 32 (au Tryz.f32) Γ _ [.ops [1, 1, 1, 1, 0, 0] 19, .code [1, 1, 1, 1, 0, 1], .code [1, 1, 1, 1, 1]] ({ n := 184, fr := [(1, .x (.c (.loc 0 0))), (2, .i 0), (3, .x (.c (.own 1))), (68, .p (.bool true)), (69, .grd 68 false (.agg [.pd (.str c.name), .pd (.lst .str c.events), .pd (.lst .var c.vars), .pd (.lst .stat c.states), .pd (.lst .tran c.trans)])), (70, .grd 68 false (.p (.bool false))), (71, .grd 68 false (.p (.bool false)))], ck := [.cells [.pd (.str c.name), .pd (.lst .str c.events), .pd (.lst .var c.vars), .pd (.lst .stat c.states), .pd (.lst .tran c.trans)] 27, .own 9 .str out] }))
   refine jg dQ Tryz.func32 (.ite true (.ret (.i 2) []) (.stop [.ops [1, 1, 1, 1, 1, 0, 0] 9, .code [1, 1, 1, 1, 1, 0, 1], .code [1, 1, 1, 1, 1, 1]] { n := 184, fr := [(1, .x (.c (.loc 0 0))), (2, .i 0), (81, .p (.bool (dx c.events || dx out))), (82, .grd 81 false (.agg [.pd (.str c.name), .pd (.lst .str c.events), .pd (.lst .var c.vars), .pd (.lst .stat c.states), .pd (.lst .tran c.trans)]))], ck := [.cells [.pd (.str c.name), .pd (.lst .str c.events), .pd (.lst .var c.vars), .pd (.lst .stat c.states), .pd (.lst .tran c.trans)] 27] })) ?_
   refine ⟨fun _ => ?_, fun h => (by cases h)⟩
   rw [Bool.true_or, Bool.not_true, kS rfl]; exact ⟨rfl, rfl⟩
theorem G7 (c : Chart) (hb : ∀ s ∈ c.states, s.entry.length ≤ 4398046511104 ∧ s.leave.length ≤ 4398046511104) (hva : c.vars.length ≤ 8) (hst : c.states.length ≤ 40) (htr : c.trans.length ≤ 48) (Γ : Ctx) : ∀ (n k : Nat), c.vars.length - k ≤ n → k ≤ c.vars.length →
 J Tryz.prog 32 (au Tryz.f32) Γ (Eq2 (.x (.i (q1E c (c.vars.map fun v : Var => v.name) (c.states.map fun s : Ev.Stat => s.name) (c6 c.states)))) []) [.code [1, 1, 1, 0, 1, 0, 0], .inLoop [1, 1, 1, 0, 1, 0, 0], .inBlock 0, .code [1, 1, 1, 1]] ({ n := 184, fr := [(1, .x (.c (.loc 0 0))), (2, .i 0), (3, .x (.c (.own 1))), (4, .i ((k : Int)))], ck := [.cells [.pd (.str c.name), .pd (.lst .str c.events), .pd (.lst .var c.vars), .pd (.lst .stat c.states), .pd (.lst .tran c.trans)] 27, .own 9 .str ((c.vars.take k).map fun v : Var => v.name)] }) := by
 have hm : c.vars.length ≤ maxLen := by unfold maxLen; omega
 intro n
 induction n with
 | zero => ?_
 | succ n ih => ?_
 all_goals
  intro k hn hk
  generalize hout : (c.vars.take k).map (fun v : Var => v.name) = out
  refine jg dQ Tryz.func32 (.ite (decide ((k : Int) < (c.vars.length : Int))) (.need (inRg k c.vars.length) (.need (room (List.length (out ++ [Var.name (ETy.get .var c.vars k)])) 16) (.stop [.code [1, 1, 1, 0, 1, 0, 0], .inLoop [1, 1, 1, 0, 1, 0, 0], .inBlock 0, .code [1, 1, 1, 1]] { n := 184, fr := [(1, .x (.c (.loc 0 0))), (2, .i 0), (3, .x (.c (.own 1))), (4, .i (IntKind.wrap .i64 ((k : Int) + 1)))], ck := [.cells [.pd (.str c.name), .pd (.lst .str c.events), .pd (.lst .var c.vars), .pd (.lst .stat c.states), .pd (.lst .tran c.trans)] 27, .own 9 .str (out ++ [Var.name (ETy.get .var c.vars k)])] }))) (.stop [.ops [1, 1, 1, 1, 0, 0] 17, .code [1, 1, 1, 1, 0, 1], .code [1, 1, 1, 1, 1]] { n := 184, fr := [(1, .x (.c (.loc 0 0))), (2, .i 0), (3, .x (.c (.own 1))), (68, .p (.bool (!aZ c.name || !List.all c.events aZ || !List.all out aZ))), (69, .grd 68 false (.agg [.pd (.str c.name), .pd (.lst .str c.events), .pd (.lst .var c.vars), .pd (.lst .stat c.states), .pd (.lst .tran c.trans)]))], ck := [.cells [.pd (.str c.name), .pd (.lst .str c.events), .pd (.lst .var c.vars), .pd (.lst .stat c.states), .pd (.lst .tran c.trans)] 27, .own 9 .str out] })) ?_
  refine ⟨fun hlt => ?_, fun hge => ?_⟩
  · have hk' : k < c.vars.length := by have := of_decide_eq_true hlt; omega
    have hs := n9 (t := .var) (fun v : Var => v.name) hk'
    rw [hout] at hs
    refine ⟨⟨by omega, by omega⟩, ?_⟩
    rw [hs]
    refine ⟨np _ (by rw [List.length_map, List.length_take]; omega), ?_⟩
    rw [aX (aE hk' hm)]
    first
    | (exfalso; omega)
    | exact ih (k + 1) (by omega) (by omega)
  · have hke : k = c.vars.length := by have := of_decide_eq_false hge; omega
    subst hke
    rw [List.take_of_length_le (Nat.le_refl _)] at hout
    rw [hout]
    exact Ke c out hout.symm hb hva hst htr Γ
theorem xR (c : Chart) (hb : ∀ s ∈ c.states, s.entry.length ≤ 4398046511104 ∧ s.leave.length ≤ 4398046511104) : ah Tryz.prog 32 [.e .chart c] [] (.x (.i (bC c))) [] := by
 refine dg dQ Tryz.func32 (.ite (decide ((c.events.length : Int) > 12) || decide ((c.vars.length : Int) > 8) || decide ((c.states.length : Int) > 40) || decide ((c.trans.length : Int) > 48)) (.ret (.i 4) []) (.stop [.code [1, 1, 1, 0, 1, 0, 0], .inLoop [1, 1, 1, 0, 1, 0, 0], .inBlock 0, .code [1, 1, 1, 1]] { n := 184, fr := [(1, .x (.c (.loc 0 0))), (2, .i 0), (3, .p (.v (Value.slice none 0 0))), (4, .i 0)], ck := [.cells [.pd (.str c.name), .pd (.lst .str c.events), .pd (.lst .var c.vars), .pd (.lst .stat c.states), .pd (.lst .tran c.trans)] 27] })) fun Γ => ?_
 unfold bC q0E
 have e : gW c = !(decide ((c.events.length : Int) > 12) || decide ((c.vars.length : Int) > 8) || decide ((c.states.length : Int) > 40) || decide ((c.trans.length : Int) > 48)) := by
  rw [Bool.eq_iff_iff, mV]
  simp only [Bool.not_eq_true', Bool.or_eq_false_iff, decide_eq_false_iff_not]
  omega
 rw [e]
 refine ⟨fun h => ?_, fun h => ?_⟩
 · rw [h, Bool.not_true, kS rfl]; exact ⟨rfl, rfl⟩
 · rw [h, Bool.not_false, mB rfl]
   simp only [Bool.or_eq_false_iff, decide_eq_false_iff_not] at h
   refine J.nilOwn 3 9 .str rfl (by kernel_rfl) ?_
   exact G7 c hb (by omega) (by omega) (by omega) Γ c.vars.length 0 (by omega) (by omega)
def oE : Ent := (32, fun
 | [.agg [.pd (.str a), .pd (.lst .str b), .pd (.lst .var c), .pd (.lst .stat d), .pd (.lst .tran e)]], [] => some (some (∀ s ∈ d, s.entry.length ≤ 4398046511104 ∧ s.leave.length ≤ 4398046511104), .x (.c (.pd (.int .i64 (bC ⟨a, b, c, d, e⟩)))), [])
 | _, _ => none)
theorem B4 : EntOk Tryz.prog oE := entOk fun vs ck => by
 unfold oE; dsimp only; split
 · rename_i a b c d e; exact entS fun hp => xR ⟨a, b, c, d, e⟩ hp
 · exact entN
end Go.Proofs.YtgfifkhbfdacjaaGreatDoor

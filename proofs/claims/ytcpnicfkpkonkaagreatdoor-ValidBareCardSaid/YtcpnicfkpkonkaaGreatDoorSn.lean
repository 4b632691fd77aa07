/- Contracts: the document's Check. Conditions: sizes of blocks. -/
import Derived.Test.YtcpnicfkpkonkaaGreatDoorSm
import Derived.Test.YtcpnicfkpkonkaaGreatDoorSg
namespace Go.Proofs.YtcpnicfkpkonkaaGreatDoor
open Go Go.Ev
set_option maxRecDepth 100000
def cfgSn9 : Cfg := ⟨tys0, [eRnm, eRspelled, eRnames, eRtwice, eRrt, eRinit, eRvar, eRbl, eRpast, eRtr]⟩
theorem cfgSn9_ok : TabOk Tryz.prog cfgSn9.tab := (TabOk.cons eRnm_ok (TabOk.cons eRspelled_ok (TabOk.cons eRnames_ok (TabOk.cons eRtwice_ok (TabOk.cons eRrt_ok (TabOk.cons eRinit_ok (TabOk.cons eRvar_ok (TabOk.cons eRbl_ok (TabOk.cons eRpast_ok (TabOk.cons eRtr_ok TabOk.nil))))))))))







theorem first_pos {f : Nat → Int} {k n : Nat} {r : Int} (h : (f k != 0) = true) : andE (firstE f k (n + 1)) r = f k := by
  rw [firstE, if_pos h, andE_pos h]
theorem first_neg {f : Nat → Int} {k n : Nat} {r : Int} (h : (f k != 0) = false) : andE (firstE f k (n + 1)) r = andE (firstE f (k + 1) n) r := by
  rw [firstE, if_neg (by rw [h]; decide)]
def inF (c : Chart) (k : Nat) : Int := initE c.states k
def vaF (c : Chart) (k : Nat) : Int := varE (ETy.get .var c.vars k)
def blF (c : Chart) (k : Nat) : Int := blocksE c (ETy.get .stat c.states k)
def trF (c : Chart) (k : Nat) : Int := transE c k (realM c.states) (ETy.get .tran c.trans k)
structure Sound (c : Chart) : Prop where
  tree : rightT c.states = true
  one : (c.states.map fun s : Ev.Stat => s.name).Nodup
  va : c.vars.length ≤ 8
  st : c.states.length ≤ 40
  tr : c.trans.length ≤ 48
  names : ∀ s ∈ c.states, nameM s.name = true
  bulk : ∀ s ∈ c.states, s.entry.length ≤ 4398046511104 ∧ s.leave.length ≤ 4398046511104
theorem rtn_loop (c : Chart) (h : Sound c) (Γ : Ctx) : ∀ (n k : Nat), c.trans.length - k = n → k ≤ c.trans.length →
    J Tryz.prog 12 (bodyOf Tryz.f12) Γ (Eq2 (.x (.i (andE (firstE (trF c) k n) 0))) []) [.code [1, 1, 1, 1, 1, 1, 1, 1, 1, 1, 0, 1, 0, 0], .inLoop [1, 1, 1, 1, 1, 1, 1, 1, 1, 1, 0, 1, 0, 0], .inBlock 8, .code [1, 1, 1, 1, 1, 1, 1, 1, 1, 1, 1]] ({ n := 184, fr := [(1, .x (.c (.loc 0 0))), (2, .i (0 : Int)), (13, .i ((k : Int)))], ck := [.cells [.pd (.str (Chart.name c)), .pd (.lst .str (Chart.events c)), .pd (.lst .var (Chart.vars c)), .pd (.lst .stat (Chart.states c)), .pd (.lst .tran (Chart.trans c))] 27] }) := by
  have ht := h.tr
  have hs := h.st
  intro n
  induction n with
  | zero => ?_
  | succ n ih => ?_
  all_goals
    intro k hn hk
    refine J.go (cfg := cfgSn9) cfgSn9_ok Tryz.func12 1000 (t := (.ite (decide ((↑k : Int) < (↑(List.length (Chart.trans c)) : Int))) (.need ((0 : Int) ≤ (↑k : Int) ∧ (↑k : Int) < (↑(List.length (Chart.trans c)) : Int) ∧ List.length (Chart.trans c) ≤ maxLen ∧ rightT (Chart.states c) = true ∧ List.Nodup (List.map (fun s => Stat.name s) (Chart.states c)) ∧ List.length (Chart.states c) ≤ 1466015503701 ∧ ∀ (s : ETy.den .stat), s ∈ Chart.states c → nameM (Stat.name s) = true) (.ite (transE { name := Chart.name c, events := Chart.events c, vars := Chart.vars c, states := Chart.states c, trans := Chart.trans c } k (realM (Chart.states c)) (ETy.get .tran (Chart.trans c) k) != (0 : Int)) (.ret (.i (transE { name := Chart.name c, events := Chart.events c, vars := Chart.vars c, states := Chart.states c, trans := Chart.trans c } k (realM (Chart.states c)) (ETy.get .tran (Chart.trans c) k))) []) (.stop [.code [1, 1, 1, 1, 1, 1, 1, 1, 1, 1, 0, 1, 0, 0], .inLoop [1, 1, 1, 1, 1, 1, 1, 1, 1, 1, 0, 1, 0, 0], .inBlock 8, .code [1, 1, 1, 1, 1, 1, 1, 1, 1, 1, 1]] { n := 184, fr := [(1, .x (.c (.loc 0 0))), (2, .i (0 : Int)), (13, .i (IntKind.wrap .i64 ((↑k : Int) + (1 : Int))))], ck := [.cells [.pd (.str (Chart.name c)), .pd (.lst .str (Chart.events c)), .pd (.lst .var (Chart.vars c)), .pd (.lst .stat (Chart.states c)), .pd (.lst .tran (Chart.trans c))] 27] }))) (.ret (.i (0 : Int)) []))) (by kernel_rfl) ?_
    refine ⟨fun hlt => ?_, fun hge => ?_⟩
    · have hk' : k < c.trans.length := by have := of_decide_eq_true hlt; omega
      have hm : c.trans.length ≤ maxLen := by unfold maxLen; omega
      refine ⟨⟨by omega, by omega, hm, h.tree, h.one, by omega, h.names⟩, fun hb => ?_, fun hb => ?_⟩
      · first
        | (exfalso; omega)
        | (rw [first_pos (f := trF c) hb]; exact ⟨rfl, rfl⟩)
      · first
        | (exfalso; omega)
        | (rw [first_neg (f := trF c) hb, wrapK (maxLen_lt hk' hm)]; exact ih (k + 1) (by omega) (by omega))
    · have := of_decide_eq_false hge
      first
      | (exfalso; omega)
      | exact ⟨rfl, rfl⟩
theorem blocks_eq (c : Chart) (s : Ev.Stat) (h : s.entry.length ≤ 4398046511104 ∧ s.leave.length ≤ 4398046511104) : blocksE c s =
    if (pastM s.kind && (decide ((s.entry.length : Int) > 0) || decide ((s.leave.length : Int) > 0)) || s.kind == 4 && decide ((s.leave.length : Int) > 0)) = true then 1
    else if (blockE c.events c.vars s.entry != 0) = true then blockE c.events c.vars s.entry else blockE c.events c.vars s.leave := by
  unfold blocksE
  have e : decide (IntKind.wrap .i64 ((s.entry.length : Int) + (s.leave.length : Int)) > 0) = (decide ((s.entry.length : Int) > 0) || decide ((s.leave.length : Int) > 0)) := by
    rw [wrapI (by omega) (by omega), Bool.eq_iff_iff]
    simp only [Bool.or_eq_true, decide_eq_true_eq]
    omega
  rw [e]
theorem rbk_loop (c : Chart) (h : Sound c) (Γ : Ctx) : ∀ (n k : Nat), c.states.length - k = n → k ≤ c.states.length →
    J Tryz.prog 12 (bodyOf Tryz.f12) Γ (Eq2 (.x (.i (andE (firstE (blF c) k n) (q7E c (realM c.states))))) []) [.code [1, 1, 1, 1, 1, 1, 1, 1, 1, 0, 1, 0, 0], .inLoop [1, 1, 1, 1, 1, 1, 1, 1, 1, 0, 1, 0, 0], .inBlock 6, .code [1, 1, 1, 1, 1, 1, 1, 1, 1, 1]] ({ n := 184, fr := [(1, .x (.c (.loc 0 0))), (2, .i (0 : Int)), (9, .i ((k : Int)))], ck := [.cells [.pd (.str (Chart.name c)), .pd (.lst .str (Chart.events c)), .pd (.lst .var (Chart.vars c)), .pd (.lst .stat (Chart.states c)), .pd (.lst .tran (Chart.trans c))] 27] }) := by
  have hs := h.st
  have no : ∀ {b : Bool}, b = false → ¬ b = true := fun h e => by rw [h] at e; cases e
  intro n
  induction n with
  | zero => ?_
  | succ n ih => ?_
  all_goals
    intro k hn hk
    refine J.go (cfg := cfgSn9) cfgSn9_ok Tryz.func12 1000 (t := (.ite (decide ((↑k : Int) < (↑(List.length (Chart.states c)) : Int))) (.need ((0 : Int) ≤ (↑k : Int) ∧ (↑k : Int) < (↑(List.length (Chart.states c)) : Int)) (.ite (pastM (Stat.kind (ETy.get .stat (Chart.states c) k)) && (decide ((↑(List.length (Stat.entry (ETy.get .stat (Chart.states c) k))) : Int) > (0 : Int)) || decide ((↑(List.length (Stat.leave (ETy.get .stat (Chart.states c) k))) : Int) > (0 : Int))) || Stat.kind (ETy.get .stat (Chart.states c) k) == (4 : Int) && decide ((↑(List.length (Stat.leave (ETy.get .stat (Chart.states c) k))) : Int) > (0 : Int))) (.ret (.i (1 : Int)) []) (.ite (blockE (Chart.events c) (Chart.vars c) (Stat.entry (ETy.get .stat (Chart.states c) k)) != (0 : Int)) (.ret (.i (blockE (Chart.events c) (Chart.vars c) (Stat.entry (ETy.get .stat (Chart.states c) k)))) []) (.ite (blockE (Chart.events c) (Chart.vars c) (Stat.leave (ETy.get .stat (Chart.states c) k)) != (0 : Int)) (.ret (.i (blockE (Chart.events c) (Chart.vars c) (Stat.leave (ETy.get .stat (Chart.states c) k)))) []) (.stop [.code [1, 1, 1, 1, 1, 1, 1, 1, 1, 0, 1, 0, 0], .inLoop [1, 1, 1, 1, 1, 1, 1, 1, 1, 0, 1, 0, 0], .inBlock 6, .code [1, 1, 1, 1, 1, 1, 1, 1, 1, 1]] { n := 184, fr := [(1, .x (.c (.loc 0 0))), (2, .i (0 : Int)), (9, .i (IntKind.wrap .i64 ((↑k : Int) + (1 : Int))))], ck := [.cells [.pd (.str (Chart.name c)), .pd (.lst .str (Chart.events c)), .pd (.lst .var (Chart.vars c)), .pd (.lst .stat (Chart.states c)), .pd (.lst .tran (Chart.trans c))] 27] }))))) (.stop [.code [1, 1, 1, 1, 1, 1, 1, 1, 1, 1, 0, 1, 0, 0], .inLoop [1, 1, 1, 1, 1, 1, 1, 1, 1, 1, 0, 1, 0, 0], .inBlock 8, .code [1, 1, 1, 1, 1, 1, 1, 1, 1, 1, 1]] { n := 184, fr := [(1, .x (.c (.loc 0 0))), (2, .i (0 : Int)), (13, .i (0 : Int))], ck := [.cells [.pd (.str (Chart.name c)), .pd (.lst .str (Chart.events c)), .pd (.lst .var (Chart.vars c)), .pd (.lst .stat (Chart.states c)), .pd (.lst .tran (Chart.trans c))] 27] }))) (by kernel_rfl) ?_
    refine ⟨fun hlt => ?_, fun hge => ?_⟩
    · have hk' : k < c.states.length := by have := of_decide_eq_true hlt; omega
      have hm : c.states.length ≤ maxLen := by unfold maxLen; omega
      have e : blF c k = _ := blocks_eq c (ETy.get .stat c.states k) (h.bulk _ (by rw [ETy.get_eq (t := .stat) (List.getElem?_eq_getElem hk')]; exact List.getElem_mem hk'))
      refine ⟨⟨by omega, by omega⟩, fun hb => ?_, fun hb => ⟨fun h2 => ?_, fun h2 => ⟨fun h3 => ?_, fun h3 => ?_⟩⟩⟩
      · rw [if_pos hb] at e
        first
        | (exfalso; omega)
        | (rw [first_pos (f := blF c) (by rw [e]; rfl), e]; exact ⟨rfl, rfl⟩)
      · rw [if_neg (no hb), if_pos h2] at e
        first
        | (exfalso; omega)
        | (rw [first_pos (f := blF c) (by rw [e]; exact h2), e]; exact ⟨rfl, rfl⟩)
      · rw [if_neg (no hb), if_neg (no h2)] at e
        first
        | (exfalso; omega)
        | (rw [first_pos (f := blF c) (by rw [e]; exact h3), e]; exact ⟨rfl, rfl⟩)
      · rw [if_neg (no hb), if_neg (no h2)] at e
        first
        | (exfalso; omega)
        | (rw [first_neg (f := blF c) (by rw [e]; exact h3), wrapK (maxLen_lt hk' hm)]; exact ih (k + 1) (by omega) (by omega))
    · have := of_decide_eq_false hge
      first
      | (exfalso; omega)
      | exact rtn_loop c h Γ c.trans.length 0 (by omega) (by omega)
theorem rva_loop (c : Chart) (h : Sound c) (Γ : Ctx) : ∀ (n k : Nat), c.vars.length - k = n → k ≤ c.vars.length →
    J Tryz.prog 12 (bodyOf Tryz.f12) Γ (Eq2 (.x (.i (andE (firstE (vaF c) k n) (q6E c (realM c.states))))) []) [.code [1, 1, 1, 1, 1, 1, 1, 1, 0, 1, 0, 0], .inLoop [1, 1, 1, 1, 1, 1, 1, 1, 0, 1, 0, 0], .inBlock 4, .code [1, 1, 1, 1, 1, 1, 1, 1, 1]] ({ n := 184, fr := [(1, .x (.c (.loc 0 0))), (2, .i (0 : Int)), (7, .i ((k : Int)))], ck := [.cells [.pd (.str (Chart.name c)), .pd (.lst .str (Chart.events c)), .pd (.lst .var (Chart.vars c)), .pd (.lst .stat (Chart.states c)), .pd (.lst .tran (Chart.trans c))] 27] }) := by
  have hs := h.va
  intro n
  induction n with
  | zero => ?_
  | succ n ih => ?_
  all_goals
    intro k hn hk
    refine J.go (cfg := cfgSn9) cfgSn9_ok Tryz.func12 1000 (t := (.ite (decide ((↑k : Int) < (↑(List.length (Chart.vars c)) : Int))) (.need ((0 : Int) ≤ (↑k : Int) ∧ (↑k : Int) < (↑(List.length (Chart.vars c)) : Int)) (.ite (varE { name := Var.name (ETy.get .var (Chart.vars c) k), kind := Var.kind (ETy.get .var (Chart.vars c) k), lo := Var.lo (ETy.get .var (Chart.vars c) k), hi := Var.hi (ETy.get .var (Chart.vars c) k), init := { kind := Val.kind (Var.init (ETy.get .var (Chart.vars c) k)), a := Val.a (Var.init (ETy.get .var (Chart.vars c) k)), b := Val.b (Var.init (ETy.get .var (Chart.vars c) k)) } } != (0 : Int)) (.ret (.i (varE { name := Var.name (ETy.get .var (Chart.vars c) k), kind := Var.kind (ETy.get .var (Chart.vars c) k), lo := Var.lo (ETy.get .var (Chart.vars c) k), hi := Var.hi (ETy.get .var (Chart.vars c) k), init := { kind := Val.kind (Var.init (ETy.get .var (Chart.vars c) k)), a := Val.a (Var.init (ETy.get .var (Chart.vars c) k)), b := Val.b (Var.init (ETy.get .var (Chart.vars c) k)) } })) []) (.stop [.code [1, 1, 1, 1, 1, 1, 1, 1, 0, 1, 0, 0], .inLoop [1, 1, 1, 1, 1, 1, 1, 1, 0, 1, 0, 0], .inBlock 4, .code [1, 1, 1, 1, 1, 1, 1, 1, 1]] { n := 184, fr := [(1, .x (.c (.loc 0 0))), (2, .i (0 : Int)), (7, .i (IntKind.wrap .i64 ((↑k : Int) + (1 : Int))))], ck := [.cells [.pd (.str (Chart.name c)), .pd (.lst .str (Chart.events c)), .pd (.lst .var (Chart.vars c)), .pd (.lst .stat (Chart.states c)), .pd (.lst .tran (Chart.trans c))] 27] }))) (.stop [.code [1, 1, 1, 1, 1, 1, 1, 1, 1, 0, 1, 0, 0], .inLoop [1, 1, 1, 1, 1, 1, 1, 1, 1, 0, 1, 0, 0], .inBlock 6, .code [1, 1, 1, 1, 1, 1, 1, 1, 1, 1]] { n := 184, fr := [(1, .x (.c (.loc 0 0))), (2, .i (0 : Int)), (9, .i (0 : Int))], ck := [.cells [.pd (.str (Chart.name c)), .pd (.lst .str (Chart.events c)), .pd (.lst .var (Chart.vars c)), .pd (.lst .stat (Chart.states c)), .pd (.lst .tran (Chart.trans c))] 27] }))) (by kernel_rfl) ?_
    refine ⟨fun hlt => ?_, fun hge => ?_⟩
    · have hk' : k < c.vars.length := by have := of_decide_eq_true hlt; omega
      have hm : c.vars.length ≤ maxLen := by unfold maxLen; omega
      refine ⟨⟨by omega, by omega⟩, fun hb => ?_, fun hb => ?_⟩
      · first
        | (exfalso; omega)
        | (rw [first_pos (f := vaF c) hb]; exact ⟨rfl, rfl⟩)
      · first
        | (exfalso; omega)
        | (rw [first_neg (f := vaF c) hb, wrapK (maxLen_lt hk' hm)]; exact ih (k + 1) (by omega) (by omega))
    · have := of_decide_eq_false hge
      first
      | (exfalso; omega)
      | exact rbk_loop c h Γ c.states.length 0 (by omega) (by omega)
theorem rin_loop (c : Chart) (h : Sound c) (Γ : Ctx) : ∀ (n k : Nat), c.states.length - k = n → k ≤ c.states.length →
    J Tryz.prog 12 (bodyOf Tryz.f12) Γ (Eq2 (.x (.i (andE (firstE (inF c) k n) (q5E c (realM c.states))))) []) [.code [1, 1, 1, 1, 1, 1, 1, 0, 1, 0, 0], .inLoop [1, 1, 1, 1, 1, 1, 1, 0, 1, 0, 0], .inBlock 2, .code [1, 1, 1, 1, 1, 1, 1, 1]] ({ n := 184, fr := [(1, .x (.c (.loc 0 0))), (2, .i (0 : Int)), (5, .i ((k : Int)))], ck := [.cells [.pd (.str (Chart.name c)), .pd (.lst .str (Chart.events c)), .pd (.lst .var (Chart.vars c)), .pd (.lst .stat (Chart.states c)), .pd (.lst .tran (Chart.trans c))] 27] }) := by
  have hs := h.st
  intro n
  induction n with
  | zero => ?_
  | succ n ih => ?_
  all_goals
    intro k hn hk
    refine J.go (cfg := cfgSn9) cfgSn9_ok Tryz.func12 1000 (t := (.ite (decide ((↑k : Int) < (↑(List.length (Chart.states c)) : Int))) (.need ((0 : Int) ≤ (↑k : Int) ∧ (↑k : Int) < (↑(List.length (Chart.states c)) : Int) ∧ List.length (Chart.states c) ≤ maxLen ∧ rightT (Chart.states c) = true) (.ite (initE (Chart.states c) k != (0 : Int)) (.ret (.i (initE (Chart.states c) k)) []) (.stop [.code [1, 1, 1, 1, 1, 1, 1, 0, 1, 0, 0], .inLoop [1, 1, 1, 1, 1, 1, 1, 0, 1, 0, 0], .inBlock 2, .code [1, 1, 1, 1, 1, 1, 1, 1]] { n := 184, fr := [(1, .x (.c (.loc 0 0))), (2, .i (0 : Int)), (5, .i (IntKind.wrap .i64 ((↑k : Int) + (1 : Int))))], ck := [.cells [.pd (.str (Chart.name c)), .pd (.lst .str (Chart.events c)), .pd (.lst .var (Chart.vars c)), .pd (.lst .stat (Chart.states c)), .pd (.lst .tran (Chart.trans c))] 27] }))) (.stop [.code [1, 1, 1, 1, 1, 1, 1, 1, 0, 1, 0, 0], .inLoop [1, 1, 1, 1, 1, 1, 1, 1, 0, 1, 0, 0], .inBlock 4, .code [1, 1, 1, 1, 1, 1, 1, 1, 1]] { n := 184, fr := [(1, .x (.c (.loc 0 0))), (2, .i (0 : Int)), (7, .i (0 : Int))], ck := [.cells [.pd (.str (Chart.name c)), .pd (.lst .str (Chart.events c)), .pd (.lst .var (Chart.vars c)), .pd (.lst .stat (Chart.states c)), .pd (.lst .tran (Chart.trans c))] 27] }))) (by kernel_rfl) ?_
    refine ⟨fun hlt => ?_, fun hge => ?_⟩
    · have hk' : k < c.states.length := by have := of_decide_eq_true hlt; omega
      have hm : c.states.length ≤ maxLen := by unfold maxLen; omega
      refine ⟨⟨by omega, by omega, hm, h.tree⟩, fun hb => ?_, fun hb => ?_⟩
      · first
        | (exfalso; omega)
        | (rw [first_pos (f := inF c) hb]; exact ⟨rfl, rfl⟩)
      · first
        | (exfalso; omega)
        | (rw [first_neg (f := inF c) hb, wrapK (maxLen_lt hk' hm)]; exact ih (k + 1) (by omega) (by omega))
    · have := of_decide_eq_false hge
      first
      | (exfalso; omega)
      | exact rva_loop c h Γ c.vars.length 0 (by omega) (by omega)
theorem names_eq (c : Chart) (vs ss : List Str) : ((allN c vs ss).any fun s : Str => !nameM s) = (!nameM c.name || !c.events.all nameM || !vs.all nameM || !ss.all nameM) := by
  unfold allN
  rw [flatS_eq]
  simp only [List.flatten_cons, List.flatten_nil, List.append_nil, List.any_append, List.any_cons, List.any_nil, Bool.or_false, List.not_all_eq_any_not, Bool.or_assoc]
theorem twice_eq (c : Chart) (vs ss : List Str) : twiceM c vs ss = !(rtwiceM c.events || rtwiceM vs || rtwiceM ss) := by
  unfold twiceM
  rw [once_eq, once_eq, once_eq, Bool.not_or, Bool.not_or]
theorem must_pos {e : Int} {b : Bool} (h : b = true) : mustM b e = 0 := if_pos h
theorem must_neg {e : Int} {b : Bool} (h : b = false) : mustM b e = e := if_neg (by rw [h]; decide)
theorem rck_two (c : Chart) (out : List Str) (hout : out = c.vars.map fun v : Var => v.name) (hb : ∀ s ∈ c.states, s.entry.length ≤ 4398046511104 ∧ s.leave.length ≤ 4398046511104) (hva : c.vars.length ≤ 8) (hst : c.states.length ≤ 40) (htr : c.trans.length ≤ 48) (hnm : ∀ s ∈ c.states, nameM s.name = true) (Γ : Ctx) :
    J Tryz.prog 12 (bodyOf Tryz.f12) Γ (Eq2 (.x (.i (q2E c out (c.states.map fun s : Ev.Stat => s.name) (realM c.states)))) []) [.ops [1, 1, 1, 1, 1, 0, 0] 9, .code [1, 1, 1, 1, 1, 0, 1], .code [1, 1, 1, 1, 1, 1]] ({ n := 184, fr := [(1, .x (.c (.loc 0 0))), (2, .i (0 : Int)), (81, .p (.bool (rtwiceM (Chart.events c) || rtwiceM out))), (82, .grd 81 false (.agg [.pd (.str (Chart.name c)), .pd (.lst .str (Chart.events c)), .pd (.lst .var (Chart.vars c)), .pd (.lst .stat (Chart.states c)), .pd (.lst .tran (Chart.trans c))]))], ck := [.cells [.pd (.str (Chart.name c)), .pd (.lst .str (Chart.events c)), .pd (.lst .var (Chart.vars c)), .pd (.lst .stat (Chart.states c)), .pd (.lst .tran (Chart.trans c))] 27] }) := by
  have no : ∀ {b : Bool}, b = false → ¬ b = true := fun h e => by rw [h] at e; cases e
  unfold q2E
  rw [twice_eq, ← rnames_true]
  generalize hB : (rtwiceM c.events || rtwiceM out) = B
  cases B
  · refine J.on (cfg := cfgSn9) cfgSn9_ok (q := some (c.states.length ≤ 1466015503701)) (by kernel_rfl) (by show c.states.length ≤ 1466015503701; omega) (?_ : J Tryz.prog 12 (bodyOf Tryz.f12) Γ _ [.ops [1, 1, 1, 1, 1, 0, 0] 10, .code [1, 1, 1, 1, 1, 0, 1], .code [1, 1, 1, 1, 1, 1]] ({ n := 184, fr := [(1, .x (.c (.loc 0 0))), (2, .i (0 : Int)), (81, .p (.bool (false))), (82, .x (.agg [.pd (.str c.name), .pd (.lst .str c.events), .pd (.lst .var c.vars), .pd (.lst .stat c.states), .pd (.lst .tran c.trans)])), (83, .x (.c (.own 1)))], ck := [.cells [.pd (.str c.name), .pd (.lst .str c.events), .pd (.lst .var c.vars), .pd (.lst .stat c.states), .pd (.lst .tran c.trans)] 27, .own 9 .str (rnamesM true c.states)] }))
    refine J.go (cfg := cfgSn9) cfgSn9_ok Tryz.func12 1000 (t := (.ite (false || rtwiceM (rnamesM true (Chart.states c))) (.ret (.i (3 : Int)) []) (.need (List.length (Chart.states c) ≤ 1466015503701) (.ite (!rrightT (Chart.states c)) (.ret (.i (9 : Int)) []) (.stop [.code [1, 1, 1, 1, 1, 1, 1, 0, 1, 0, 0], .inLoop [1, 1, 1, 1, 1, 1, 1, 0, 1, 0, 0], .inBlock 2, .code [1, 1, 1, 1, 1, 1, 1, 1]] { n := 184, fr := [(1, .x (.c (.loc 0 0))), (2, .i (0 : Int)), (5, .i (0 : Int))], ck := [.cells [.pd (.str (Chart.name c)), .pd (.lst .str (Chart.events c)), .pd (.lst .var (Chart.vars c)), .pd (.lst .stat (Chart.states c)), .pd (.lst .tran (Chart.trans c))] 27] }))))) (by kernel_rfl) ?_
    rw [Bool.false_or]
    refine ⟨fun h => ?_, fun h => ⟨by omega, fun h2 => ?_, fun h2 => ?_⟩⟩
    · rw [h, Bool.not_true, must_neg rfl]; exact ⟨rfl, rfl⟩
    · have h3 : rightT c.states = false := by rw [right_eq]; simpa using h2
      rw [h, Bool.not_false, must_pos rfl]; unfold q3E; rw [h3]; exact ⟨rfl, rfl⟩
    · have h3 : rightT c.states = true := by rw [right_eq]; simpa using h2
      rw [h, Bool.not_false, must_pos rfl]; unfold q3E; rw [h3]
      rw [rnames_true] at h
      exact rin_loop c ⟨h3, (twice_iff _).1 h, hva, hst, htr, hnm, hb⟩ Γ c.states.length 0 (by omega) (by omega)
  · refine J.off 2 9 (by kernel_rfl) (?_ : J Tryz.prog 12 (bodyOf Tryz.f12) Γ _ [.ops [1, 1, 1, 1, 1, 0, 0] 11, .code [1, 1, 1, 1, 1, 0, 1], .code [1, 1, 1, 1, 1, 1]] ({ n := 184, fr := [(1, .x (.c (.loc 0 0))), (2, .i (0 : Int)), (81, .p (.bool (true))), (82, .grd 81 false (.agg [.pd (.str (Chart.name c)), .pd (.lst .str (Chart.events c)), .pd (.lst .var (Chart.vars c)), .pd (.lst .stat (Chart.states c)), .pd (.lst .tran (Chart.trans c))])), (83, .grd 81 false (.p (.bool false))), (84, .grd 81 false (.p (.bool false)))], ck := [.cells [.pd (.str (Chart.name c)), .pd (.lst .str (Chart.events c)), .pd (.lst .var (Chart.vars c)), .pd (.lst .stat (Chart.states c)), .pd (.lst .tran (Chart.trans c))] 27] }))
    refine J.go (cfg := cfgSn9) cfgSn9_ok Tryz.func12 1000 (t := (.ite true (.ret (.i (3 : Int)) []) (.need (List.length (Chart.states c) ≤ 1466015503701) (.ite (!rrightT (Chart.states c)) (.ret (.i (9 : Int)) []) (.stop [.code [1, 1, 1, 1, 1, 1, 1, 0, 1, 0, 0], .inLoop [1, 1, 1, 1, 1, 1, 1, 0, 1, 0, 0], .inBlock 2, .code [1, 1, 1, 1, 1, 1, 1, 1]] { n := 184, fr := [(1, .x (.c (.loc 0 0))), (2, .i (0 : Int)), (5, .i (0 : Int))], ck := [.cells [.pd (.str (Chart.name c)), .pd (.lst .str (Chart.events c)), .pd (.lst .var (Chart.vars c)), .pd (.lst .stat (Chart.states c)), .pd (.lst .tran (Chart.trans c))] 27] }))))) (by kernel_rfl) ?_
    refine ⟨fun _ => ?_, fun h => (by cases h)⟩
    rw [Bool.true_or, Bool.not_true, must_neg rfl]; exact ⟨rfl, rfl⟩
theorem rck_mid (c : Chart) (out : List Str) (hout : out = c.vars.map fun v : Var => v.name) (hb : ∀ s ∈ c.states, s.entry.length ≤ 4398046511104 ∧ s.leave.length ≤ 4398046511104) (hva : c.vars.length ≤ 8) (hst : c.states.length ≤ 40) (htr : c.trans.length ≤ 48) (Γ : Ctx) :
    J Tryz.prog 12 (bodyOf Tryz.f12) Γ (Eq2 (.x (.i (q1E c out (c.states.map fun s : Ev.Stat => s.name) (realM c.states)))) []) [.ops [1, 1, 1, 1, 0, 0] 17, .code [1, 1, 1, 1, 0, 1], .code [1, 1, 1, 1, 1]] ({ n := 184, fr := [(1, .x (.c (.loc 0 0))), (2, .i (0 : Int)), (3, .x (.c (.own 1))), (68, .p (.bool (!nameM (Chart.name c) || !List.all (Chart.events c) nameM || !List.all out nameM))), (69, .grd 68 false (.agg [.pd (.str (Chart.name c)), .pd (.lst .str (Chart.events c)), .pd (.lst .var (Chart.vars c)), .pd (.lst .stat (Chart.states c)), .pd (.lst .tran (Chart.trans c))]))], ck := [.cells [.pd (.str (Chart.name c)), .pd (.lst .str (Chart.events c)), .pd (.lst .var (Chart.vars c)), .pd (.lst .stat (Chart.states c)), .pd (.lst .tran (Chart.trans c))] 27, .own 9 .str out] }) := by
  unfold q1E
  rw [names_eq, ← rnames_true]
  generalize hB : (!nameM c.name || !c.events.all nameM || !out.all nameM) = B
  cases B
  · refine J.on (cfg := cfgSn9) cfgSn9_ok (q := some (c.states.length ≤ 1466015503701)) (by kernel_rfl) (by show c.states.length ≤ 1466015503701; omega) (?_ : J Tryz.prog 12 (bodyOf Tryz.f12) Γ _ [.ops [1, 1, 1, 1, 0, 0] 18, .code [1, 1, 1, 1, 0, 1], .code [1, 1, 1, 1, 1]] ({ n := 184, fr := [(1, .x (.c (.loc 0 0))), (2, .i (0 : Int)), (3, .x (.c (.own 1))), (68, .p (.bool (false))), (69, .x (.agg [.pd (.str c.name), .pd (.lst .str c.events), .pd (.lst .var c.vars), .pd (.lst .stat c.states), .pd (.lst .tran c.trans)])), (70, .x (.c (.own 2)))], ck := [.cells [.pd (.str c.name), .pd (.lst .str c.events), .pd (.lst .var c.vars), .pd (.lst .stat c.states), .pd (.lst .tran c.trans)] 27, .own 9 .str out, .own 9 .str (rnamesM true c.states)] }))
    refine J.go (cfg := cfgSn9) cfgSn9_ok Tryz.func12 1000 (t := (.ite (false || !List.all (rnamesM true (Chart.states c)) nameM) (.ret (.i (2 : Int)) []) (.stop [.ops [1, 1, 1, 1, 1, 0, 0] 9, .code [1, 1, 1, 1, 1, 0, 1], .code [1, 1, 1, 1, 1, 1]] { n := 184, fr := [(1, .x (.c (.loc 0 0))), (2, .i (0 : Int)), (81, .p (.bool (rtwiceM (Chart.events c) || rtwiceM out))), (82, .grd 81 false (.agg [.pd (.str (Chart.name c)), .pd (.lst .str (Chart.events c)), .pd (.lst .var (Chart.vars c)), .pd (.lst .stat (Chart.states c)), .pd (.lst .tran (Chart.trans c))]))], ck := [.cells [.pd (.str (Chart.name c)), .pd (.lst .str (Chart.events c)), .pd (.lst .var (Chart.vars c)), .pd (.lst .stat (Chart.states c)), .pd (.lst .tran (Chart.trans c))] 27] }))) (by kernel_rfl) ?_
    rw [Bool.false_or]
    refine ⟨fun h => ?_, fun h => ?_⟩
    · rw [h, Bool.not_true, must_neg rfl]; exact ⟨rfl, rfl⟩
    · rw [h, Bool.not_false, must_pos rfl, rnames_true]
      rw [rnames_true] at h
      refine rck_two c out hout hb hva hst htr (fun s hs => ?_) Γ
      have h2 : ((c.states.map fun s : Ev.Stat => s.name).all nameM) = true := by simpa using h
      exact List.all_eq_true.1 h2 _ (List.mem_map.2 ⟨s, hs, rfl⟩)
  · refine J.off 2 17 (by kernel_rfl) (?_ : J Tryz.prog 12 (bodyOf Tryz.f12) Γ _ [.ops [1, 1, 1, 1, 0, 0] 19, .code [1, 1, 1, 1, 0, 1], .code [1, 1, 1, 1, 1]] ({ n := 184, fr := [(1, .x (.c (.loc 0 0))), (2, .i (0 : Int)), (3, .x (.c (.own 1))), (68, .p (.bool (true))), (69, .grd 68 false (.agg [.pd (.str (Chart.name c)), .pd (.lst .str (Chart.events c)), .pd (.lst .var (Chart.vars c)), .pd (.lst .stat (Chart.states c)), .pd (.lst .tran (Chart.trans c))])), (70, .grd 68 false (.p (.bool false))), (71, .grd 68 false (.p (.bool false)))], ck := [.cells [.pd (.str (Chart.name c)), .pd (.lst .str (Chart.events c)), .pd (.lst .var (Chart.vars c)), .pd (.lst .stat (Chart.states c)), .pd (.lst .tran (Chart.trans c))] 27, .own 9 .str out] }))
    refine J.go (cfg := cfgSn9) cfgSn9_ok Tryz.func12 1000 (t := (.ite true (.ret (.i (2 : Int)) []) (.stop [.ops [1, 1, 1, 1, 1, 0, 0] 9, .code [1, 1, 1, 1, 1, 0, 1], .code [1, 1, 1, 1, 1, 1]] { n := 184, fr := [(1, .x (.c (.loc 0 0))), (2, .i (0 : Int)), (81, .p (.bool (rtwiceM (Chart.events c) || rtwiceM out))), (82, .grd 81 false (.agg [.pd (.str (Chart.name c)), .pd (.lst .str (Chart.events c)), .pd (.lst .var (Chart.vars c)), .pd (.lst .stat (Chart.states c)), .pd (.lst .tran (Chart.trans c))]))], ck := [.cells [.pd (.str (Chart.name c)), .pd (.lst .str (Chart.events c)), .pd (.lst .var (Chart.vars c)), .pd (.lst .stat (Chart.states c)), .pd (.lst .tran (Chart.trans c))] 27] }))) (by kernel_rfl) ?_
    refine ⟨fun _ => ?_, fun h => (by cases h)⟩
    rw [Bool.true_or, Bool.not_true, must_neg rfl]; exact ⟨rfl, rfl⟩
theorem rck_loop (c : Chart) (hb : ∀ s ∈ c.states, s.entry.length ≤ 4398046511104 ∧ s.leave.length ≤ 4398046511104) (hva : c.vars.length ≤ 8) (hst : c.states.length ≤ 40) (htr : c.trans.length ≤ 48) (Γ : Ctx) : ∀ (n k : Nat), c.vars.length - k ≤ n → k ≤ c.vars.length →
    J Tryz.prog 12 (bodyOf Tryz.f12) Γ (Eq2 (.x (.i (q1E c (c.vars.map fun v : Var => v.name) (c.states.map fun s : Ev.Stat => s.name) (realM c.states)))) []) [.code [1, 1, 1, 0, 1, 0, 0], .inLoop [1, 1, 1, 0, 1, 0, 0], .inBlock 0, .code [1, 1, 1, 1]] ({ n := 184, fr := [(1, .x (.c (.loc 0 0))), (2, .i (0 : Int)), (3, .x (.c (.own 1))), (4, .i ((k : Int)))], ck := [.cells [.pd (.str c.name), .pd (.lst .str c.events), .pd (.lst .var c.vars), .pd (.lst .stat c.states), .pd (.lst .tran c.trans)] 27, .own 9 .str ((c.vars.take k).map fun v : Var => v.name)] }) := by
  have hm : c.vars.length ≤ maxLen := by unfold maxLen; omega
  intro n
  induction n with
  | zero => ?_
  | succ n ih => ?_
  all_goals
    intro k hn hk
    generalize hout : (c.vars.take k).map (fun v : Var => v.name) = out
    refine J.go (cfg := cfgSn9) cfgSn9_ok Tryz.func12 1000 (t := (.ite (decide ((↑k : Int) < (↑(List.length (Chart.vars c)) : Int))) (.need ((0 : Int) ≤ (↑k : Int) ∧ (↑k : Int) < (↑(List.length (Chart.vars c)) : Int)) (.need (room (List.length (out ++ [Var.name (ETy.get .var (Chart.vars c) k)])) 16) (.stop [.code [1, 1, 1, 0, 1, 0, 0], .inLoop [1, 1, 1, 0, 1, 0, 0], .inBlock 0, .code [1, 1, 1, 1]] { n := 184, fr := [(1, .x (.c (.loc 0 0))), (2, .i (0 : Int)), (3, .x (.c (.own 1))), (4, .i (IntKind.wrap .i64 ((↑k : Int) + (1 : Int))))], ck := [.cells [.pd (.str (Chart.name c)), .pd (.lst .str (Chart.events c)), .pd (.lst .var (Chart.vars c)), .pd (.lst .stat (Chart.states c)), .pd (.lst .tran (Chart.trans c))] 27, .own 9 .str (out ++ [Var.name (ETy.get .var (Chart.vars c) k)])] }))) (.stop [.ops [1, 1, 1, 1, 0, 0] 17, .code [1, 1, 1, 1, 0, 1], .code [1, 1, 1, 1, 1]] { n := 184, fr := [(1, .x (.c (.loc 0 0))), (2, .i (0 : Int)), (3, .x (.c (.own 1))), (68, .p (.bool (!nameM (Chart.name c) || !List.all (Chart.events c) nameM || !List.all out nameM))), (69, .grd 68 false (.agg [.pd (.str (Chart.name c)), .pd (.lst .str (Chart.events c)), .pd (.lst .var (Chart.vars c)), .pd (.lst .stat (Chart.states c)), .pd (.lst .tran (Chart.trans c))]))], ck := [.cells [.pd (.str (Chart.name c)), .pd (.lst .str (Chart.events c)), .pd (.lst .var (Chart.vars c)), .pd (.lst .stat (Chart.states c)), .pd (.lst .tran (Chart.trans c))] 27, .own 9 .str out] }))) (by kernel_rfl) ?_
    refine ⟨fun hlt => ?_, fun hge => ?_⟩
    · have hk' : k < c.vars.length := by have := of_decide_eq_true hlt; omega
      have hs := take_name (t := .var) (fun v : Var => v.name) hk'
      rw [hout] at hs
      refine ⟨⟨by omega, by omega⟩, ?_⟩
      rw [hs]
      refine ⟨room16 _ (by rw [List.length_map, List.length_take]; omega), ?_⟩
      rw [wrapK (maxLen_lt hk' hm)]
      first
      | (exfalso; omega)
      | exact ih (k + 1) (by omega) (by omega)
    · have hke : k = c.vars.length := by have := of_decide_eq_false hge; omega
      subst hke
      rw [List.take_of_length_le (Nat.le_refl _)] at hout
      rw [hout]
      exact rck_mid c out hout.symm hb hva hst htr Γ
theorem rcheck_spec (c : Chart) (hb : ∀ s ∈ c.states, s.entry.length ≤ 4398046511104 ∧ s.leave.length ≤ 4398046511104) : Does Tryz.prog 12 [.e .chart c] [] (.x (.i (checkE c))) [] := by
  refine Does.go (cfg := cfgSn9) cfgSn9_ok Tryz.func12 (by kernel_rfl) (by kernel_rfl) (t := (.ite (decide ((↑(List.length (Chart.events c)) : Int) > (12 : Int)) || decide ((↑(List.length (Chart.vars c)) : Int) > (8 : Int)) || decide ((↑(List.length (Chart.states c)) : Int) > (40 : Int)) || decide ((↑(List.length (Chart.trans c)) : Int) > (48 : Int))) (.ret (.i (4 : Int)) []) (.stop [.code [1, 1, 1, 0, 1, 0, 0], .inLoop [1, 1, 1, 0, 1, 0, 0], .inBlock 0, .code [1, 1, 1, 1]] { n := 184, fr := [(1, .x (.c (.loc 0 0))), (2, .i (0 : Int)), (3, .p (.v (Value.slice none 0 0))), (4, .i (0 : Int))], ck := [.cells [.pd (.str (Chart.name c)), .pd (.lst .str (Chart.events c)), .pd (.lst .var (Chart.vars c)), .pd (.lst .stat (Chart.states c)), .pd (.lst .tran (Chart.trans c))] 27] }))) (by kernel_rfl) fun Γ => ?_
  unfold checkE q0E
  have e : longM c = !(decide ((c.events.length : Int) > 12) || decide ((c.vars.length : Int) > 8) || decide ((c.states.length : Int) > 40) || decide ((c.trans.length : Int) > 48)) := by
    rw [Bool.eq_iff_iff, long_iff]
    simp only [Bool.not_eq_true', Bool.or_eq_false_iff, decide_eq_false_iff_not]
    omega
  rw [e]
  refine ⟨fun h => ?_, fun h => ?_⟩
  · rw [h, Bool.not_true, must_neg rfl]; exact ⟨rfl, rfl⟩
  · rw [h, Bool.not_false, must_pos rfl]
    simp only [Bool.or_eq_false_iff, decide_eq_false_iff_not] at h
    refine J.nilOwn 3 9 .str rfl (by kernel_rfl) ?_
    exact rck_loop c hb (by omega) (by omega) (by omega) Γ c.vars.length 0 (by omega) (by omega)
def eRcheck : Nat × (List SX → List Chunk → Option (Option Prop × SV × List Chunk)) := (12, fun
  | [.agg [.pd (.str a), .pd (.lst .str b), .pd (.lst .var c), .pd (.lst .stat d), .pd (.lst .tran e)]], [] => some (some (∀ s ∈ d, s.entry.length ≤ 4398046511104 ∧ s.leave.length ≤ 4398046511104), .x (.c (.pd (.int .i64 (checkE ⟨a, b, c, d, e⟩)))), [])
  | _, _ => none)
theorem eRcheck_ok (vs : List SX) (ck : List Chunk) (p : Option Prop) (ret : SV) (ck' : List Chunk) (h : eRcheck.2 vs ck = some (p, ret, ck')) (hp : Holds p) : Does Tryz.prog eRcheck.1 vs ck ret ck' := by
  unfold eRcheck at h
  simp only at h
  split at h
  · rename_i a b c d e
    simp only [Option.some.injEq, Prod.mk.injEq] at h
    obtain ⟨rfl, rfl, rfl⟩ := h
    exact rcheck_spec ⟨a, b, c, d, e⟩ hp
  · simp at h
end Go.Proofs.YtcpnicfkpkonkaaGreatDoor

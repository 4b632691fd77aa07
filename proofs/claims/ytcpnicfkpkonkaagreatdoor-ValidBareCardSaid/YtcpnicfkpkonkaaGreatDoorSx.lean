/- Contracts: words.Line. Conditions: sizes. Contracts: the kinds of lines, a map. Conditions: none. An executor for function bodies of the model over data, part VJ: calls whose truths are all written out, run to their end, with functions looked up in maps and guards that are literal. Conditions: those that the run tells. Contracts: chart.Parse on the layer's example. Conditions: none. Contracts: the layer's example holds. Conditions: none. -/
import Derived.Test.YtcpnicfkpkonkaaGreatDoorKb
import Derived.Test.YtcpnicfkpkonkaaGreatDoorTa
import Derived.Test.YtcpnicfkpkonkaaGreatDoorVe
import Derived.Test.YtcpnicfkpkonkaaGreatDoorSz
import Derived.Test.YtcpnicfkpkonkaaGreatDoorUz
import Derived.Test.YtcpnicfkpkonkaaGreatDoorTq
namespace Go.Proofs.YtcpnicfkpkonkaaGreatDoor
open Go Go.Ev
set_option maxRecDepth 100000
def eLn1 : Nat × (List SX → List Chunk → Option (Option Prop × SV × List Chunk)) := (63, fun
  | [.c (.pd (.str s))], [] => some (some (s.length ≤ 2097152 ∧ lineOk s = true), .tup [.c (.pd (.int .i64 ((leadB s : Nat) : Int))), .c (.own 0), .c (.pd (.int .i64 0))], [.own 9 .str (lineW s)])
  | _, _ => none)
theorem eLn1_ok (vs : List SX) (ck : List Chunk) (p : Option Prop) (ret : SV) (ck' : List Chunk) (h : eLn1.2 vs ck = some (p, ret, ck')) (hp : Holds p) : Does Tryz.prog eLn1.1 vs ck ret ck' := by
  unfold eLn1 at h
  simp only at h
  split at h
  · rename_i s
    simp only [Option.some.injEq, Prod.mk.injEq] at h
    obtain ⟨rfl, rfl, rfl⟩ := h
    exact line_ok s hp.1 hp.2
  · simp at h
def kindsT : List (Str × Nat) := [([101, 118, 101, 110, 116], 109), ([105, 110, 116], 110), ([98, 111, 111, 108], 111), ([112, 111, 105, 110, 116], 112), ([98, 97, 115, 105, 99], 113), ([98, 111, 116, 104], 114), ([102, 105, 110, 97, 108], 115), ([111, 110, 101], 116), ([115, 104, 97, 108, 108, 111, 119], 117), ([100, 101, 101, 112], 118), ([101, 110, 116, 114, 121], 119), ([101, 120, 105, 116], 120), ([111, 110], 121)]
theorem lines_spec : Does Tryz.prog 60 [] [] (.x (.p (.tbl kindsT))) [] := by
  refine Does.go (cfg := cfg0) cfg0_ok Tryz.func60 (by kernel_rfl) (by kernel_rfl) (t := (.stop [.ops [1, 0] 0, .code [1, 1]] { n := 3, fr := [(0, .p (.v (Value.map none)))], ck := [] })) (by kernel_rfl) fun Γ => ?_
  refine J.makeTbl (d := 1) (n := 13) (l := kindsT.map fun p => (bs p.1, p.2)) (by kernel_rfl) ?_
  have e : keyed (kindsT.map fun p => (bs p.1, p.2)) = kindsT := by decide
  rw [e]
  refine J.go (cfg := cfg0) cfg0_ok Tryz.func60 1000 (t := (.ret (.p (PD.tbl [([(101 : UInt8), 118, 101, 110, 116], 109), ([(105 : UInt8), 110, 116], 110), ([(98 : UInt8), 111, 111, 108], 111), ([(112 : UInt8), 111, 105, 110, 116], 112), ([(98 : UInt8), 97, 115, 105, 99], 113), ([(98 : UInt8), 111, 116, 104], 114), ([(102 : UInt8), 105, 110, 97, 108], 115), ([(111 : UInt8), 110, 101], 116), ([(115 : UInt8), 104, 97, 108, 108, 111, 119], 117), ([(100 : UInt8), 101, 101, 112], 118), ([(101 : UInt8), 110, 116, 114, 121], 119), ([(101 : UInt8), 120, 105, 116], 120), ([(111 : UInt8), 110], 121)])) [])) (by kernel_rfl) ?_
  exact ⟨rfl, rfl⟩
def eLines : Nat × (List SX → List Chunk → Option (Option Prop × SV × List Chunk)) := (60, fun
  | [], [] => some (none, .x (.c (.pd (.tbl kindsT))), [])
  | _, _ => none)
theorem eLines_ok (vs : List SX) (ck : List Chunk) (p : Option Prop) (ret : SV) (ck' : List Chunk) (h : eLines.2 vs ck = some (p, ret, ck')) (hp : Holds p) : Does Tryz.prog eLines.1 vs ck ret ck' := by
  unfold eLines at h
  simp only at h
  split at h
  · simp only [Option.some.injEq, Prod.mk.injEq] at h
    obtain ⟨rfl, rfl, rfl⟩ := h
    exact lines_spec
  · simp at h
end Go.Proofs.YtcpnicfkpkonkaaGreatDoor
namespace Go.Ev
open Go.RowKit
def frzSlot (tys : Tys) (fz : Nat) (st : ST) : Option ST :=
  match lookup st.fr fz with
  | some (.x (.c (.own n))) => frzs tys st [n]
  | _ => some st
def specRun (P : Program) (cfg : Cfg) (root : Code) (fz : Nat) (p : List Nat) (i : Nat) (st : ST) : Option (Option Prop × ST) :=
  match (lookRun P root p i st).isSome with
  | true => match frzSlot cfg.tys fz st with
    | some st1 => match lookRun P root p i st1 with
      | some (d, m, kx, _) => match lookup st1.fr m, evalO st1 none kx with
        | some (.x (.c (.pd (.tbl l)))), some (.c (.pd (.str s))) => match tblGet l s with
          | some g => some (none, { st1 with fr := setSlot d (.x (.c (.fn (.func g) [] []))) st1.fr })
          | none => none
        | _, _ => none
      | none => none
    | none => none
  | false => match fnNilRun P root p i st with
    | some (d, b) => some (none, { st with fr := setSlot d (.x (.b b)) st.fr })
    | none => match ptrNilRun P root p i st with
      | some (d, b) => some (none, { st with fr := setSlot d (.x (.b b)) st.fr })
      | none => match onRun P cfg root p i st with
        | some r => some r
        | none => match offRun root p 1 i st with
          | some st' => some (none, st')
          | none => none
def runD (P : Program) (cfg : Cfg) (fn : Func) (root : Code) (fz : Nat) : Nat → List PI → ST → List Prop → Option (List Prop × SV × List Chunk)
  | 0, _, _, _ => none
  | n + 1, todo, st, a => match (exec P cfg fn root 1000 todo st).walk a with
    | (a', .ret v ck) => some (a', v, ck)
    | (a', .stop (.ops p i :: k) st') => match specRun P cfg root fz p i st' with
      | some (none, st2) => runD P cfg fn root fz n (.ops p (i + 1) :: k) st2 a'
      | some (some q, st2) => runD P cfg fn root fz n (.ops p (i + 1) :: k) st2 (q :: a')
      | none => runD P cfg fn root fz n (.ops p i :: k) st' a'
    | (a', .stop todo' st') => runD P cfg fn root fz n todo' st' a'
    | _ => none
section
variable {P : Program} {cfg : Cfg} {Γ : Ctx} {Q : Out} {f : FuncId} {fn : Func} {root : Code}
theorem specRun_J (ht : TabOk P cfg.tab) {fz : Nat} {p : List Nat} {i : Nat} {k : List PI} {st st' : ST} {q : Option Prop} (h : specRun P cfg root fz p i st = some (q, st')) (hq : Holds q) (hk : J P f root Γ Q (.ops p (i + 1) :: k) st') : J P f root Γ Q (.ops p i :: k) st := by
  unfold specRun at h
  split at h
  · split at h
    · rename_i st1 hz
      have hj : J P f root Γ Q (.ops p i :: k) st1 := by
        split at h
        · rename_i d m kx et hl
          split at h
          · rename_i l s hm hs
            split at h
            · rename_i g hg
              simp only [Option.some.injEq, Prod.mk.injEq] at h
              obtain ⟨rfl, rfl⟩ := h
              refine J.lookup (zv := .nilFunc) (z := .v .nilFunc) hl hm hs rfl (fun hn => by rw [hg] at hn; cases hn) ?_
              rw [hg]; exact hk
            · cases h
          · cases h
        · cases h
      unfold frzSlot at hz
      split at hz
      · exact J.freeze cfg.tys _ hz hj
      · simp only [Option.some.injEq] at hz
        subst hz; exact hj
    · cases h
  · split at h
    · rename_i d b hf
      simp only [Option.some.injEq, Prod.mk.injEq] at h
      obtain ⟨rfl, rfl⟩ := h
      exact J.fnNil hf hk
    · split at h
      · rename_i d b hf
        simp only [Option.some.injEq, Prod.mk.injEq] at h
        obtain ⟨rfl, rfl⟩ := h
        exact J.ptrNil hf hk
      · split at h
        · rename_i r hr
          simp only [Option.some.injEq] at h
          subst h
          exact J.on ht hr hq hk
        · split at h
          · rename_i st2 ho
            simp only [Option.some.injEq, Prod.mk.injEq] at h
            obtain ⟨rfl, rfl⟩ := h
            exact J.off 1 i ho hk
          · cases h
theorem runD_J (ht : TabOk P cfg.tab) (hf : P.funcs[f]? = some fn) {fz : Nat} : ∀ (n : Nat) {todo : List PI} {st : ST} {a ps : List Prop} {v : SV} {ck : List Chunk}, runD P cfg fn root fz n todo st a = some (ps, v, ck) → AllP ps → Q v ck → J P f root Γ Q todo st ∧ AllP a
  | 0, _, _, _, _, _, _, h, _, _ => by cases h
  | n + 1, todo, st, a, ps, v, ck, h, hp, hq => by
    simp only [runD] at h
    have back : ∀ {a' : List Prop} {todo' : List PI} {st' : ST}, (exec P cfg fn root 1000 todo st).walk a = (a', .stop todo' st') → J P f root Γ Q todo' st' ∧ AllP a' → J P f root Γ Q todo st ∧ AllP a := fun he hj => by
      obtain ⟨h1, h2⟩ := Tree.walk_J (Q := Q) (Γ := Γ) (P := P) (f := f) (root := root) he hj.2 hj.1
      exact ⟨J.go ht hf 1000 rfl h1, h2⟩
    split at h
    · rename_i a' v' ck' he
      simp only [Option.some.injEq, Prod.mk.injEq] at h
      obtain ⟨rfl, rfl, rfl⟩ := h
      obtain ⟨h1, h2⟩ := Tree.walk_J (Q := Q) (Γ := Γ) (P := P) (f := f) (root := root) he hp hq
      exact ⟨J.go ht hf 1000 rfl h1, h2⟩
    · rename_i a' p i k st' he
      refine back he ?_
      split at h
      · rename_i st2 hs
        have h3 := runD_J ht hf n h hp hq
        exact ⟨specRun_J ht hs trivial h3.1, h3.2⟩
      · rename_i q st2 hs
        have h3 := runD_J ht hf n h hp hq
        exact ⟨specRun_J ht hs h3.2.1 h3.1, h3.2.2⟩
      · exact runD_J ht hf n h hp hq
    · rename_i a' todo' st' _ he
      exact back he (runD_J ht hf n h hp hq)
    · cases h
def runE (P : Program) (cfg : Cfg) (fn : Func) (root : Code) (fz : Nat) : Nat → List PI → ST → List Prop → Option (List Prop × List PI × ST)
  | 0, todo, st, a => some (a, todo, st)
  | n + 1, todo, st, a => match (exec P cfg fn root 1000 todo st).walk a with
    | (a', .stop (.ops p i :: k) st') => match specRun P cfg root fz p i st' with
      | some (none, st2) => runE P cfg fn root fz n (.ops p (i + 1) :: k) st2 a'
      | some (some q, st2) => runE P cfg fn root fz n (.ops p (i + 1) :: k) st2 (q :: a')
      | none => none
    | (a', .stop todo' st') => runE P cfg fn root fz n todo' st' a'
    | _ => none
theorem runE_all (ht : TabOk P cfg.tab) (hf : P.funcs[f]? = some fn) {fz : Nat} : ∀ (n : Nat) {todo todo' : List PI} {st st' : ST} {a ps : List Prop}, runE P cfg fn root fz n todo st a = some (ps, todo', st') → AllP ps → J P f root Γ Q todo' st' → J P f root Γ Q todo st ∧ AllP a
  | 0, _, _, _, _, _, _, h, hp, hj => by
    simp only [runE, Option.some.injEq, Prod.mk.injEq] at h
    obtain ⟨rfl, rfl, rfl⟩ := h; exact ⟨hj, hp⟩
  | n + 1, todo, _, st, _, a, ps, h, hp, hj => by
    simp only [runE] at h
    have back : ∀ {a' : List Prop} {todo' : List PI} {st' : ST}, (exec P cfg fn root 1000 todo st).walk a = (a', .stop todo' st') → J P f root Γ Q todo' st' ∧ AllP a' → J P f root Γ Q todo st ∧ AllP a := fun he hj => by
      obtain ⟨h1, h2⟩ := Tree.walk_J (Q := Q) (Γ := Γ) (P := P) (f := f) (root := root) he hj.2 hj.1
      exact ⟨J.go ht hf 1000 rfl h1, h2⟩
    split at h
    · rename_i a' p i k st' he
      refine back he ?_
      split at h
      · rename_i st2 hs
        have h3 := runE_all ht hf n h hp hj
        exact ⟨specRun_J ht hs trivial h3.1, h3.2⟩
      · rename_i q st2 hs
        have h3 := runE_all ht hf n h hp hj
        exact ⟨specRun_J ht hs h3.2.1 h3.1, h3.2.2⟩
      · cases h
    · rename_i a' todo' st' _ he
      exact back he (runE_all ht hf n h hp hj)
    · cases h
theorem J.runE (ht : TabOk P cfg.tab) (hf : P.funcs[f]? = some fn) (fz n : Nat) {todo todo' : List PI} {st st' : ST} (ps : List Prop) (h : runE P cfg fn root fz n todo st [] = some (ps, todo', st')) (hp : AllP ps) (hj : J P f root Γ Q todo' st') : J P f root Γ Q todo st := (runE_all ht hf n h hp hj).1
theorem Does.runD {args : List SX} {ck : List Chunk} {ret : SV} {ck' : List Chunk} (ht : TabOk P cfg.tab) (hf : P.funcs[f]? = some fn) (hb : fn.body.isSome = true) (hn : Nat.ble args.length fn.ntmps = true) (fz n : Nat) (ps : List Prop)
    (he : runD P cfg fn (bodyOf fn) fz n [.code []] (initST fn.ntmps args ck) [] = some (ps, ret, ck')) (hp : AllP ps) : Does P f args ck ret ck' :=
  Does.of hf hb hn fun Γ => (runD_J (Q := Eq2 ret ck') ht hf n he hp ⟨rfl, rfl⟩).1
noncomputable def runEntD (P : Program) (cfg : Cfg) (fn : Func) (fz n : Nat) (f : FuncId) : Nat × (List SX → List Chunk → Option (Option Prop × SV × List Chunk)) := (f, fun vs ck => bif Nat.ble vs.length fn.ntmps then
    (match runD P cfg fn (bodyOf fn) fz n [.code []] (initST fn.ntmps vs ck) [] with
      | some ([], ret, ck') => some (none, ret, ck')
      | some (p :: ps, ret, ck') => some (some (AllP (p :: ps)), ret, ck')
      | none => none) else none)
theorem runEntD_ok {fz n : Nat} (ht : TabOk P cfg.tab) (hf : P.funcs[f]? = some fn) (hb : fn.body.isSome = true) {vs : List SX} {ck : List Chunk} {p : Option Prop} {ret : SV} {ck' : List Chunk} (h : (runEntD P cfg fn fz n f).2 vs ck = some (p, ret, ck')) (hp : Holds p) : Does P f vs ck ret ck' := by
  simp only [runEntD] at h
  cases hn : Nat.ble vs.length fn.ntmps
  · rw [hn, cond_false] at h; cases h
  · rw [hn, cond_true] at h
    split at h
    · rename_i he
      simp only [Option.some.injEq, Prod.mk.injEq] at h
      obtain ⟨rfl, rfl, rfl⟩ := h
      exact Does.runD ht hf hb hn fz n _ he trivial
    · rename_i he
      simp only [Option.some.injEq, Prod.mk.injEq] at h
      obtain ⟨rfl, rfl, rfl⟩ := h
      exact Does.runD ht hf hb hn fz n _ he hp
    · cases h
end
end Go.Ev
namespace Go.Proofs.YtcpnicfkpkonkaaGreatDoor
open Go Go.Ev
set_option maxRecDepth 100000
def exW : Str := [99, 104, 97, 114, 116, 32, 99, 10, 101, 118, 101, 110, 116, 32, 103, 111, 10, 111, 110, 101, 32, 114, 32, 97, 10, 32, 98, 97, 115, 105, 99, 32, 97, 10, 32, 32, 111, 110, 32, 103, 111, 32, 45, 32, 97, 32, 45, 10]
noncomputable section
def rHs : Nat × (List SX → List Chunk → Option (Option Prop × SV × List Chunk)) := runEnt Tryz.prog cfg0 Tryz.f168 30 168
theorem rHs_ok (vs : List SX) (ck : List Chunk) (p : Option Prop) (ret : SV) (ck' : List Chunk) (h : rHs.2 vs ck = some (p, ret, ck')) (hp : Holds p) : Does Tryz.prog rHs.1 vs ck ret ck' := runEnt_ok cfg0_ok Tryz.func168 (by kernel_rfl) h hp
def cfgT1 : Cfg := ⟨tys0, [rHs]⟩
theorem cfgT1_ok : TabOk Tryz.prog cfgT1.tab := (TabOk.cons rHs_ok TabOk.nil)
def rTs1 : Nat × (List SX → List Chunk → Option (Option Prop × SV × List Chunk)) := runEnt Tryz.prog cfgT1 Tryz.f123 30 123
theorem rTs1_ok (vs : List SX) (ck : List Chunk) (p : Option Prop) (ret : SV) (ck' : List Chunk) (h : rTs1.2 vs ck = some (p, ret, ck')) (hp : Holds p) : Does Tryz.prog rTs1.1 vs ck ret ck' := runEnt_ok cfgT1_ok Tryz.func123 (by kernel_rfl) h hp
def cfgT2 : Cfg := ⟨tys0, [rTs1]⟩
theorem cfgT2_ok : TabOk Tryz.prog cfgT2.tab := (TabOk.cons rTs1_ok TabOk.nil)
def rTs : Nat × (List SX → List Chunk → Option (Option Prop × SV × List Chunk)) := runEnt Tryz.prog cfgT2 Tryz.f62 30 62
theorem rTs_ok (vs : List SX) (ck : List Chunk) (p : Option Prop) (ret : SV) (ck' : List Chunk) (h : rTs.2 vs ck = some (p, ret, ck')) (hp : Holds p) : Does Tryz.prog rTs.1 vs ck ret ck' := runEnt_ok cfgT2_ok Tryz.func62 (by kernel_rfl) h hp
def cfgSw1 : Cfg := ⟨tys0, [eName]⟩
theorem cfgSw1_ok : TabOk Tryz.prog cfgSw1.tab := (TabOk.cons eName_ok TabOk.nil)
def rHd : Nat × (List SX → List Chunk → Option (Option Prop × SV × List Chunk)) := runEnt Tryz.prog cfgSw1 Tryz.f155 30 155
theorem rHd_ok (vs : List SX) (ck : List Chunk) (p : Option Prop) (ret : SV) (ck' : List Chunk) (h : rHd.2 vs ck = some (p, ret, ck')) (hp : Holds p) : Does Tryz.prog rHd.1 vs ck ret ck' := runEnt_ok cfgSw1_ok Tryz.func155 (by kernel_rfl) h hp
def cfgSw3 : Cfg := ⟨tys0, [rHd]⟩
theorem cfgSw3_ok : TabOk Tryz.prog cfgSw3.tab := (TabOk.cons rHd_ok TabOk.nil)
def rEvt : Nat × (List SX → List Chunk → Option (Option Prop × SV × List Chunk)) := runEnt Tryz.prog cfgSw3 Tryz.f109 30 109
theorem rEvt_ok (vs : List SX) (ck : List Chunk) (p : Option Prop) (ret : SV) (ck' : List Chunk) (h : rEvt.2 vs ck = some (p, ret, ck')) (hp : Holds p) : Does Tryz.prog rEvt.1 vs ck ret ck' := runEnt_ok cfgSw3_ok Tryz.func109 (by kernel_rfl) h hp
def rStt : Nat × (List SX → List Chunk → Option (Option Prop × SV × List Chunk)) := runEnt Tryz.prog cfgSw1 Tryz.f159 30 159
theorem rStt_ok (vs : List SX) (ck : List Chunk) (p : Option Prop) (ret : SV) (ck' : List Chunk) (h : rStt.2 vs ck = some (p, ret, ck')) (hp : Holds p) : Does Tryz.prog rStt.1 vs ck ret ck' := runEnt_ok cfgSw1_ok Tryz.func159 (by kernel_rfl) h hp
def cfgSw4 : Cfg := ⟨tys0, [rStt]⟩
theorem cfgSw4_ok : TabOk Tryz.prog cfgSw4.tab := (TabOk.cons rStt_ok TabOk.nil)
def rOne : Nat × (List SX → List Chunk → Option (Option Prop × SV × List Chunk)) := runEnt Tryz.prog cfgSw4 Tryz.f116 30 116
theorem rOne_ok (vs : List SX) (ck : List Chunk) (p : Option Prop) (ret : SV) (ck' : List Chunk) (h : rOne.2 vs ck = some (p, ret, ck')) (hp : Holds p) : Does Tryz.prog rOne.1 vs ck ret ck' := runEnt_ok cfgSw4_ok Tryz.func116 (by kernel_rfl) h hp
def rBas : Nat × (List SX → List Chunk → Option (Option Prop × SV × List Chunk)) := runEnt Tryz.prog cfgSw4 Tryz.f113 30 113
theorem rBas_ok (vs : List SX) (ck : List Chunk) (p : Option Prop) (ret : SV) (ck' : List Chunk) (h : rBas.2 vs ck = some (p, ret, ck')) (hp : Holds p) : Does Tryz.prog rBas.1 vs ck ret ck' := runEnt_ok cfgSw4_ok Tryz.func113 (by kernel_rfl) h hp
def rOwn : Nat × (List SX → List Chunk → Option (Option Prop × SV × List Chunk)) := runEnt Tryz.prog cfg0 Tryz.f160 30 160
theorem rOwn_ok (vs : List SX) (ck : List Chunk) (p : Option Prop) (ret : SV) (ck' : List Chunk) (h : rOwn.2 vs ck = some (p, ret, ck')) (hp : Holds p) : Does Tryz.prog rOwn.1 vs ck ret ck' := runEnt_ok cfg0_ok Tryz.func160 (by kernel_rfl) h hp
def cfgSw6 : Cfg := ⟨tys0, [rOwn, eEvent, eName]⟩
theorem cfgSw6_ok : TabOk Tryz.prog cfgSw6.tab := (TabOk.cons rOwn_ok (TabOk.cons eEvent_ok (TabOk.cons eName_ok TabOk.nil)))
def rOn : Nat × (List SX → List Chunk → Option (Option Prop × SV × List Chunk)) := runEntD Tryz.prog cfgSw6 Tryz.f121 999 30 121
theorem rOn_ok (vs : List SX) (ck : List Chunk) (p : Option Prop) (ret : SV) (ck' : List Chunk) (h : rOn.2 vs ck = some (p, ret, ck')) (hp : Holds p) : Does Tryz.prog rOn.1 vs ck ret ck' := runEntD_ok cfgSw6_ok Tryz.func121 (by kernel_rfl) h hp
def cfgSw2 : Cfg := ⟨tys0, [eLines, rTs, eSplitN, eLn1, eName, rEvt, rOne, rBas, rOn]⟩
theorem cfgSw2_ok : TabOk Tryz.prog cfgSw2.tab := (TabOk.cons eLines_ok (TabOk.cons rTs_ok (TabOk.cons eSplitN_ok (TabOk.cons eLn1_ok (TabOk.cons eName_ok (TabOk.cons rEvt_ok (TabOk.cons rOne_ok (TabOk.cons rBas_ok (TabOk.cons rOn_ok TabOk.nil)))))))))
end
abbrev wkN : SC := .pd (.v (.slice none 0 0))
def frW (i : Int) : List (Nat × SV) := [(2, .x (.c (.loc 0 0))), (3, .i 0), (4, .i 0), (5, .x (.c (.loc 1 0))), (6, .p (.tbl kindsT)), (23, .x (.c (.own 2))), (24, .i 5), (25, .i i)]
def ckW (a b c d : SC) (n : Int) (r : List Chunk) : List Chunk := .cells [.pd (.str []), wkN, wkN, wkN, wkN] 27 :: .cells [.pd (.str [99]), a, b, c, d, .pd (.i n)] 89 :: .own 9 .str [[99, 104, 97, 114, 116, 32, 99], [101, 118, 101, 110, 116, 32, 103, 111], [111, 110, 101, 32, 114, 32, 97], [32, 98, 97, 115, 105, 99, 32, 97], [32, 32, 111, 110, 32, 103, 111, 32, 45, 32, 97, 32, 45]] :: r
def stW (i : Int) (ck : List Chunk) : ST := { n := 101, fr := frW i, ck := ck }
def sR : Ev.Stat := ⟨[114], 2, 0, [97], [], []⟩
def sA : Ev.Stat := ⟨[97], 1, 1, [], [], []⟩
def tG : Tran := ⟨1, [103, 111], [], [97], []⟩
def ck1 : List Chunk := ckW wkN wkN wkN wkN 0 []
def ck2 : List Chunk := ckW (.own 3) wkN wkN wkN 0 [.own 9 .str [[103, 111]]]
def ck3 : List Chunk := ckW (.own 3) wkN (.own 4) wkN 0 [.own 9 .str [[103, 111]], .own 39 .stat [sR]]
def ck4 : List Chunk := ckW (.own 3) wkN (.own 4) wkN 1 [.own 9 .str [[103, 111]], .own 39 .stat [sR, sA]]
def ck5 : List Chunk := ckW (.own 3) wkN (.own 4) (.own 5) 2 [.own 9 .str [[103, 111]], .own 39 .stat [sR, sA], .own 42 .tran [tG]]
abbrev wkI (i : Int) (n : Nat) : Prop := 0 ≤ i ∧ i < n
abbrev wkJ (i : Int) (n : Nat) : Prop := 0 ≤ i ∧ i ≤ n
abbrev wkB (n m : Nat) : Prop := n < m
abbrev wkL (n : Nat) : Prop := n ≤ 2097152 ∧ true = true
def tdW : List PI := [PI.code [1, 1, 1, 1, 0, 1, 0, 0], PI.inLoop [1, 1, 1, 1, 0, 1, 0, 0], PI.inBlock 0, PI.code [1, 1, 1, 1, 1]]
theorem wl0 {Γ : Ctx} {Q : Out} (h : J Tryz.prog 16 (bodyOf Tryz.f16) Γ Q tdW (stW 1 ck1)) : J Tryz.prog 16 (bodyOf Tryz.f16) Γ Q [.code []] (initST (Tryz.f16).ntmps [.s exW] []) := by
  refine J.runE (fn := Tryz.f16) cfgSw2_ok Tryz.func16 10 2 [wkB 1 2, wkI 1 2, true = true → wkB 1 2, true = true → wkI 1 2, true = true → wkB 0 2, true = true → wkI 0 2, wkL 7, wkB 0 5, wkI 0 5, wkB 47 4294967281, AllP [AllP [wkJ 47 48, AllP [true = true → wkJ 47 48]]]] (by kernel_rfl) ?_ h
  repeat' first | exact trivial | decide | constructor | intro _
theorem wl1 {Γ : Ctx} {Q : Out} (h : J Tryz.prog 16 (bodyOf Tryz.f16) Γ Q tdW (stW 2 ck2)) : J Tryz.prog 16 (bodyOf Tryz.f16) Γ Q tdW (stW 1 ck1) := by
  refine J.runE (fn := Tryz.f16) cfgSw2_ok Tryz.func16 10 4 [AllP [room 1 16, wkI 0 1, AllP [true = true → wkI 0 1]], true = true → wkJ 1 2, wkB 0 2, wkI 0 2, wkL 8, wkB 1 5, wkI 1 5] (by kernel_rfl) ?_ h
  repeat' first | exact trivial | decide | constructor | intro _
theorem wl2 {Γ : Ctx} {Q : Out} (h : J Tryz.prog 16 (bodyOf Tryz.f16) Γ Q tdW (stW 3 ck3)) : J Tryz.prog 16 (bodyOf Tryz.f16) Γ Q tdW (stW 2 ck2) := by
  refine J.runE (fn := Tryz.f16) cfgSw2_ok Tryz.func16 10 4 [AllP [AllP [room 1 96, wkI 1 2, wkI 0 2, false = false → wkI 1 2, false = false → wkI 0 2]], true = true → wkJ 1 3, wkB 0 3, wkI 0 3, wkL 7, wkB 2 5, wkI 2 5] (by kernel_rfl) ?_ h
  repeat' first | exact trivial | decide | constructor | intro _
theorem wl3 {Γ : Ctx} {Q : Out} (h : J Tryz.prog 16 (bodyOf Tryz.f16) Γ Q tdW (stW 4 ck4)) : J Tryz.prog 16 (bodyOf Tryz.f16) Γ Q tdW (stW 3 ck3) := by
  refine J.runE (fn := Tryz.f16) cfgSw2_ok Tryz.func16 10 4 [AllP [AllP [room 2 96, wkI 0 1, false = false → wkI 0 1, false = false → wkI 0 1, wkB 0 1, wkI 0 1]], true = true → wkJ 1 2, wkB 0 2, wkI 0 2, wkL 8, wkB 3 5, wkI 3 5] (by kernel_rfl) ?_ h
  repeat' first | exact trivial | decide | constructor | intro _
theorem wl4 {Γ : Ctx} {Q : Out} (h : J Tryz.prog 16 (bodyOf Tryz.f16) Γ Q tdW (stW 5 ck5)) : J Tryz.prog 16 (bodyOf Tryz.f16) Γ Q tdW (stW 4 ck4) := by
  refine J.runE (fn := Tryz.f16) cfgSw2_ok Tryz.func16 10 4 [AllP [room 1 88, wkI 3 4, wkI 2 4, wkI 2 4, wkI 2 4, wkI 1 4, wkI 0 4, wkI 0 4, wkI 0 4, AllP [wkI 1 2, false = false → wkB 1 2, false = false → wkI 1 2]], true = true → wkJ 1 5, wkB 0 5, wkI 0 5, wkL 13, wkB 4 5, wkI 4 5] (by kernel_rfl) ?_ h
  repeat' first | exact trivial | decide | constructor | intro _
theorem pa_ex : Does Tryz.prog 16 [.s exW] [] (.tup [.agg [.pd (.str [99]), .own 0, wkN, .own 1, .own 2], .i 0, .i 0]) [.own 9 .str [[103, 111]], .own 39 .stat [sR, sA], .own 42 .tran [tG]] := by
  refine Does.of Tryz.func16 (by kernel_rfl) (by kernel_rfl) fun Γ => wl0 (wl1 (wl2 (wl3 (wl4 ?_))))
  exact (runD_J (a := []) (fn := Tryz.f16) (fz := 10) cfgSw2_ok Tryz.func16 4 (ps := []) (by kernel_rfl) trivial ⟨rfl, rfl⟩).1
def ePaEx : Nat × (List SX → List Chunk → Option (Option Prop × SV × List Chunk)) := (16, fun
  | [.c (.pd (.str s))], [] => some (some (s = exW), .tup [.agg [.pd (.str [99]), .own 0, .pd (.v (.slice none 0 0)), .own 1, .own 2], .c (.pd (.int .i64 0)), .c (.pd (.int .i64 0))], [.own 9 .str [[103, 111]], .own 39 .stat [⟨[114], 2, 0, [97], [], []⟩, ⟨[97], 1, 1, [], [], []⟩], .own 42 .tran [⟨1, [103, 111], [], [97], []⟩]])
  | _, _ => none)
theorem ePaEx_ok (vs : List SX) (ck : List Chunk) (p : Option Prop) (ret : SV) (ck' : List Chunk) (h : ePaEx.2 vs ck = some (p, ret, ck')) (hp : Holds p) : Does Tryz.prog ePaEx.1 vs ck ret ck' := by
  unfold ePaEx at h
  simp only at h
  split at h
  · rename_i s
    simp only [Option.some.injEq, Prod.mk.injEq] at h
    obtain ⟨rfl, rfl, rfl⟩ := h
    exact by subst hp; exact pa_ex
  · simp at h
end Go.Proofs.YtcpnicfkpkonkaaGreatDoor
namespace Go.Proofs.YtcpnicfkpkonkaaGreatDoor
open Go Go.Ev
set_option maxRecDepth 100000
theorem some_reads {V : Vn} {a : Str} {b : List Str} {d : List Ev.Stat} {e : List Tran} {u : Value} (h : SX.R V (.agg [.pd (.str a), .pd (.lst .str b), .pd (.v (.slice none 0 0)), .pd (.lst .stat d), .pd (.lst .tran e)]) u) : SX.R V (.e .chart ⟨a, b, [], d, e⟩) u := by
  obtain ⟨us, e, hu⟩ := h
  refine ⟨us, e, ?_⟩
  cases hu with | cons h0 hu => cases hu with | cons h1 hu => cases hu with | cons h2 hu => cases hu with | cons h3 hu => cases hu with | cons h4 hu =>
    cases hu
    exact .cons h0 (.cons h1 (.cons (nil_reads h2) (.cons h3 (.cons h4 .nil))))
theorem check_some (a : Str) (b : List Str) (d : List Ev.Stat) (e : List Tran) (h : d.length ≤ 2199023255552) : Does Tryz.prog 10 [.agg [.pd (.str a), .pd (.lst .str b), .pd (.v (.slice none 0 0)), .pd (.lst .stat d), .pd (.lst .tran e)]] [] (.x (.i (checkE ⟨a, b, [], d, e⟩))) [] :=
  Does.sub (fun V vs hv => by
    cases hv with | cons h1 hv =>
      cases hv
      exact .cons (some_reads h1) .nil) (check_spec ⟨a, b, [], d, e⟩ ⟨by simp, h⟩)
def eCheckV : Nat × (List SX → List Chunk → Option (Option Prop × SV × List Chunk)) := (10, fun
  | [.agg [.pd (.str a), .pd (.lst .str b), .pd (.v (.slice none 0 0)), .pd (.lst .stat d), .pd (.lst .tran e)]], [] => some (some (d.length ≤ 2199023255552), .x (.c (.pd (.int .i64 (checkE ⟨a, b, [], d, e⟩)))), [])
  | _, _ => none)
theorem eCheckV_ok (vs : List SX) (ck : List Chunk) (p : Option Prop) (ret : SV) (ck' : List Chunk) (h : eCheckV.2 vs ck = some (p, ret, ck')) (hp : Holds p) : Does Tryz.prog eCheckV.1 vs ck ret ck' := by
  unfold eCheckV at h
  simp only at h
  split at h
  · rename_i a b d e
    simp only [Option.some.injEq, Prod.mk.injEq] at h
    obtain ⟨rfl, rfl, rfl⟩ := h
    exact check_some a b d e hp
  · simp at h
theorem place_some (a : Str) (b : List Str) (d : List Ev.Stat) (e : List Tran) (s : Str) : Does Tryz.prog 13 [.agg [.pd (.str a), .pd (.lst .str b), .pd (.v (.slice none 0 0)), .pd (.lst .stat d), .pd (.lst .tran e)], .s s] [] (.x (.i (placeM d s))) [] :=
  Does.sub (fun V vs hv => by
    cases hv with | cons h1 hv => cases hv with | cons h2 hv =>
      cases hv
      exact .cons (some_reads h1) (.cons h2 .nil)) (place_spec ⟨a, b, [], d, e⟩ s)
def ePlaceV : Nat × (List SX → List Chunk → Option (Option Prop × SV × List Chunk)) := (13, fun
  | [.agg [.pd (.str a), .pd (.lst .str b), .pd (.v (.slice none 0 0)), .pd (.lst .stat d), .pd (.lst .tran e)], .c (.pd (.str s))], [] => some (none, .x (.c (.pd (.int .i64 (placeM d s)))), [])
  | _, _ => none)
theorem ePlaceV_ok (vs : List SX) (ck : List Chunk) (p : Option Prop) (ret : SV) (ck' : List Chunk) (h : ePlaceV.2 vs ck = some (p, ret, ck')) (hp : Holds p) : Does Tryz.prog ePlaceV.1 vs ck ret ck' := by
  unfold ePlaceV at h
  simp only at h
  split at h
  · rename_i a b d e s
    simp only [Option.some.injEq, Prod.mk.injEq] at h
    obtain ⟨rfl, rfl, rfl⟩ := h
    exact place_some a b d e s
  · simp at h
theorem check_ex : checkE ⟨[99], [[103, 111]], [], [⟨[114], 2, 0, [97], [], []⟩, ⟨[97], 1, 1, [], [], []⟩], [⟨1, [103, 111], [], [97], []⟩]⟩ = 0 := by
  refine (valid_iff _).2 ⟨by decide, by decide, by decide, by decide, by decide, by decide, fun k hk => ?_, fun k hk => absurd hk (Nat.not_lt_zero _), fun k hk => ?_, fun k hk => ?_⟩
  · have hk' : k < 2 := hk
    rcases (show k = 0 ∨ k = 1 by omega) with rfl | rfl <;> decide
  · have hk' : k < 2 := hk
    rcases (show k = 0 ∨ k = 1 by omega) with rfl | rfl <;> decide
  · have hk' : k < 1 := hk
    have : k = 0 := by omega
    subst this; decide
def cfgSx9 : Cfg := ⟨tys0, [ePaEx, eCheckV, eCheck0, ePlaceV]⟩
theorem cfgSx9_ok : TabOk Tryz.prog cfgSx9.tab := (TabOk.cons ePaEx_ok (TabOk.cons eCheckV_ok (TabOk.cons eCheck0_ok (TabOk.cons ePlaceV_ok TabOk.nil))))
theorem wakes_spec : Does Tryz.prog 9 [] [] (.x (.b true)) [] := by
  refine Does.go (cfg := cfgSx9) cfgSx9_ok Tryz.func9 (by kernel_rfl) (by kernel_rfl) (t := (.need ([(99 : UInt8), 104, 97, 114, 116, 32, 99, 10, 101, 118, 101, 110, 116, 32, 103, 111, 10, 111, 110, 101, 32, 114, 32, 97, 10, 32, 98, 97, 115, 105, 99, 32, 97, 10, 32, 32, 111, 110, 32, 103, 111, 32, 45, 32, 97, 32, 45, 10] = exW) (.need (((0 : Int) == (0 : Int)) = true → 2 ≤ 2199023255552) (.ret (.p (.bool (true && checkE { name := [(99 : UInt8)], events := [[(103 : UInt8), 111]], vars := [], states := [{ name := [(114 : UInt8)], kind := (2 : Int), depth := (0 : Int), initial := [(97 : UInt8)], entry := [], leave := [] }, { name := [(97 : UInt8)], kind := (1 : Int), depth := (1 : Int), initial := [], entry := [], leave := [] }], trans := [{ src := (1 : Int), event := [(103 : UInt8), 111], guard := [], dst := [(97 : UInt8)], acts := [] }] } == (0 : Int) && checkE { name := [(99 : UInt8)], events := [], vars := [], states := [], trans := [] } == (9 : Int) && placeM [{ name := [(114 : UInt8)], kind := (2 : Int), depth := (0 : Int), initial := [(97 : UInt8)], entry := [], leave := [] }, { name := [(97 : UInt8)], kind := (1 : Int), depth := (1 : Int), initial := [], entry := [], leave := [] }] [(97 : UInt8)] == (1 : Int) && true))) [])))) (by kernel_rfl) fun Γ => ?_
  refine ⟨rfl, fun _ => by decide, ?_, rfl⟩
  rw [check_ex, check_none]; rfl
def eWakes : Nat × (List SX → List Chunk → Option (Option Prop × SV × List Chunk)) := (9, fun
  | [], [] => some (none, .x (.c (.pd (.bool true))), [])
  | _, _ => none)
theorem eWakes_ok (vs : List SX) (ck : List Chunk) (p : Option Prop) (ret : SV) (ck' : List Chunk) (h : eWakes.2 vs ck = some (p, ret, ck')) (hp : Holds p) : Does Tryz.prog eWakes.1 vs ck ret ck' := by
  unfold eWakes at h
  simp only at h
  split at h
  · simp only [Option.some.injEq, Prod.mk.injEq] at h
    obtain ⟨rfl, rfl, rfl⟩ := h
    exact wakes_spec
  · simp at h
end Go.Proofs.YtcpnicfkpkonkaaGreatDoor

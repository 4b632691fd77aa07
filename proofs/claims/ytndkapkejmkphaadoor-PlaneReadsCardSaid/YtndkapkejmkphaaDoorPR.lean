/- An executor for function bodies of the model over data, part PR: how a contract is proved, and the rules where the executor stops. Conditions: each rule's own. -/
import Derived.Test.YtndkapkejmkphaaDoorQb
namespace Go.Ev
open Go.RowKit

/-! ### short forms -/
abbrev SX.p (p : PD) : SX := .c (.pd p)
abbrev SX.i (n : Int) : SX := .c (.pd (.int .i64 n))
abbrev SX.b (b : Bool) : SX := .c (.pd (.bool b))
abbrev SX.s (s : Str) : SX := .c (.pd (.str s))
abbrev SX.l (t : ETy) (l : List t.den) : SX := .c (.pd (.lst t l))
abbrev SX.e (t : ETy) (x : t.den) : SX := .agg ((t.enc x).map .pd)
abbrev bodyOf (fn : Func) : Code := fn.body.getD .skip
theorem body_some {fn : Func} (h : fn.body.isSome = true) : fn.body = some (bodyOf fn) := by
  unfold bodyOf; cases hb : fn.body <;> simp_all
theorem wrapI {n : Int} (h0 : -9223372036854775808 ≤ n) (h1 : n ≤ 9223372036854775807) : IntKind.wrap .i64 n = n := by
  unfold IntKind.wrap
  simp only [IntKind.bits, IntKind.signed]
  simp
  omega
theorem wrapK {k : Nat} (h : k < 9223372036854775807) : IntKind.wrap .i64 ((k : Int) + 1) = ((k + 1 : Nat) : Int) := by
  rw [wrapI (by omega) (by omega)]; omega

/-! ### a call's beginning -/
def initFr : List SX → Nat → List (Nat × SV)
  | [], _ => []
  | v :: r, i => (i, .x v) :: initFr r (i + 1)
def initST (n : Nat) (vs : List SX) (ck : List Chunk) : ST := { n := n, fr := initFr vs 0, ck := ck, m := ck.length }
theorem initFr_mem : ∀ {vs : List SX} {i t : Nat} {sv : SV}, (t, sv) ∈ initFr vs i → ∃ v, sv = .x v ∧ i ≤ t ∧ vs[t - i]? = some v
  | [], _, _, _, h => by simp [initFr] at h
  | v :: r, i, t, sv, h => by
    rcases List.mem_cons.1 h with h | h
    · simp only [Prod.mk.injEq] at h; obtain ⟨rfl, rfl⟩ := h; exact ⟨v, rfl, Nat.le_refl _, by simp⟩
    · obtain ⟨u, h1, h2, h3⟩ := initFr_mem h
      exact ⟨u, h1, by omega, by rw [show t - i = (t - (i + 1)) + 1 from by omega, List.getElem?_cons_succ]; exact h3⟩
def Eq2 (ret : SV) (ck' : List Chunk) : Out := fun v ck => v = ret ∧ ck = ck'
theorem calls_of_J {P : Program} {f : FuncId} {fn : Func} {root : Code} {args : List SX} {ck : List Chunk} {Q : Out} (hf : P.funcs[f]? = some fn) (hb : fn.body = some root) (hn : Nat.ble args.length fn.ntmps = true) {Γ : Ctx} (hm : Γ.m = ck.length)
    (h : J P f root Γ Q [.code []] (initST fn.ntmps args ck)) {w : World} {V : Vn} {vs : List Value} (hw : WOk Γ ck V w) (hT : Tabs P Γ.H0) (hv : All2 (SX.R V) args vs) (hds : Γ.ds = [] := by rfl) : Calls P f vs.toArray w (PostQ Γ Q) := by
  refine Go.Sy.calls_of_fin hf hb ?_
  have hn' := Nat.le_of_ble_eq_true hn
  have hl := hv.length
  refine h hT V _ w { size := ?_, defers := .nil hds, slots := ?_, wok := hw, few := ⟨by rw [hm]; exact Nat.le_refl _, Nat.le_refl _⟩ }
  · simp [initST]; omega
  · intro t sv hm
    obtain ⟨v, rfl, _, h2⟩ := initFr_mem hm
    simp only [Nat.sub_zero] at h2
    obtain ⟨u, h3, h4⟩ := hv.get h2
    have ht : t < vs.length := (List.getElem?_eq_some_iff.1 h3).1
    show v.R V ((vs.toArray ++ Array.replicate (fn.ntmps - vs.toArray.size) undef).getD t undef)
    rw [Array.getD_eq_getD_getElem?, Array.getElem?_append_left (by simpa using ht)]
    simpa [h3] using h4
theorem Does.of {P : Program} {f : FuncId} {fn : Func} {args : List SX} {ck : List Chunk} {ret : SV} {ck' : List Chunk} (hf : P.funcs[f]? = some fn) (hb : fn.body.isSome = true) (hn : Nat.ble args.length fn.ntmps = true)
    (h : ∀ Γ, J P f (bodyOf fn) Γ (Eq2 ret ck') [.code []] (initST fn.ntmps args ck)) : Does P f args ck ret ck' := by
  intro w V vs hw hT hv
  refine (calls_of_J hf (body_some hb) hn (Γ := entry ck V w) rfl (h _) hw hT hv).mono fun e w' hq => ?_
  rcases hq with hq | hq
  case inr => exact False.elim hq
  obtain ⟨v, V', r, c, rfl, ⟨rfl, rfl⟩, h1, h2⟩ := hq
  exact ⟨v, V', rfl, h1, h2⟩
section
variable {P : Program} {cfg : Cfg} {f : Go.Sy.Md} {fn : Func} {root : Code} {Γ : Ctx} {Q : Out} {st st' : ST} {todo : List PI}
theorem J.go {f : FuncId} (ht : TabOk P cfg.tab) (hf : P.funcs[f]? = some fn) (n : Nat) {t : Tree} (he : exec P cfg fn root n todo st = t) (h : t.J P f root Γ Q) : J P f root Γ Q todo st :=
  exec_sound ht (.inl ⟨rfl, hf⟩) n todo st (he ▸ h)
theorem Does.go {f : FuncId} {args : List SX} {ck : List Chunk} {ret : SV} {ck' : List Chunk} (ht : TabOk P cfg.tab) (hf : P.funcs[f]? = some fn) (hb : fn.body.isSome = true) (hn : Nat.ble args.length fn.ntmps = true) {t : Tree}
    (he : exec P cfg fn (bodyOf fn) 1000 [.code []] (initST fn.ntmps args ck) = t) (h : ∀ Γ, t.J P f (bodyOf fn) Γ (Eq2 ret ck')) : Does P f args ck ret ck' :=
  Does.of hf hb hn fun Γ => J.go ht hf 1000 he (h Γ)
theorem J.kn (l : List Nat) (h : J P f root Γ Q todo { st with kn := l }) : J P f root Γ Q todo st :=
  fun hT V a w r => h hT V a w ⟨r.1, r.2, r.3, r.4, r.5⟩
theorem J.wanted (ht : TabOk P cfg.tab) {p : List Nat} {i j d : Nat} {k : List PI} {o : Oper} {want : Bool} (ho : (opsOf (sub root p))[i]? = some o) (hg : o.guard = some (j, want)) (hs : ((opsOf (sub root p))[j]?).bind (·.dst) = some d)
    (hb : lookup st.fr d = some (.x (.c (.pd (.bool want))))) {q : Option Prop} (h : op1a P cfg o st = some (q, st')) (hq : Holds q) (hk : J P f root Γ Q (.ops p (i + 1) :: k) st') : J P f root Γ Q (.ops p i :: k) st := by
  intro hT V a w r
  have hon : a.tmps.getD d undef = .bool want := by
    have := r.slots d _ (lookup_mem hb)
    have h2 : SX.R V (.c (.pd (.bool want))) (a.tmps.getD d undef) := this
    generalize a.tmps.getD d undef = u at h2 ⊢
    cases h2; rfl
  have hi : i < (opsOf (sub root p)).size := (Array.getElem?_eq_some_iff.1 ho).1
  have hsz : (opsOf (sub root p)).size - i = ((opsOf (sub root p)).size - (i + 1)) + 1 := by omega
  simp only [List.map_cons, PI.den]
  rw [hsz, List.range'_succ]
  exact op1a_sound ⟨ht, hT⟩ r ho (wanted_on hg hs hon) h hq fun V' a' w' r' => hk hT V' a' w' r'
def wantedRun (P : Program) (cfg : Cfg) (root : Code) (p : List Nat) (i : Nat) (st : ST) : Option (Option Prop × ST) :=
  match (opsOf (sub root p))[i]? with
  | some o => match o.guard with
    | some (j, want) => match ((opsOf (sub root p))[j]?).bind (·.dst) with
      | some d => match lookup st.fr d with
        | some (.x (.c (.pd (.bool true)))) => match want with
          | true => op1a P cfg o st
          | false => none
        | _ => none
      | none => none
    | none => none
  | none => none
theorem J.run (ht : TabOk P cfg.tab) {p : List Nat} {i : Nat} {k : List PI} {q : Option Prop} (h : wantedRun P cfg root p i st = some (q, st')) (hq : Holds q) (hk : J P f root Γ Q (.ops p (i + 1) :: k) st') : J P f root Γ Q (.ops p i :: k) st := by
  unfold wantedRun at h
  split at h
  · rename_i o ho
    split at h
    · rename_i j want hg
      split at h
      · rename_i d hd
        split at h
        · rename_i hb
          split at h
          · exact J.wanted ht ho hg hd hb h hq hk
          · cases h
        · cases h
      · cases h
    · cases h
  · cases h
theorem J.eq (h : st = st') (hk : J P f root Γ Q todo st') : J P f root Γ Q todo st := h ▸ hk
theorem J.mono {Q' : Out} (h : ∀ v ck, Q' v ck → Q v ck) (hk : J P f root Γ Q' todo st) : J P f root Γ Q todo st := by
  intro hT V a w r
  refine Go.Sy.Fin.mono (fun e w' hq => ?_) (hk hT V a w r)
  rcases hq with ⟨v, V', ret, ck', q1, q2, q3, q4⟩ | hq
  · exact .inl ⟨v, V', ret, ck', q1, h _ _ q2, q3, q4⟩
  · exact .inr hq
theorem J.freeze (tys : Tys) (l : List Nat) (hz : frzs tys st l = some st') (hk : J P f root Γ Q todo st') : J P f root Γ Q todo st := by
  intro hT V a w r
  obtain ⟨V', r'⟩ := frzs_rel r hz
  exact hk hT V' a w r'
theorem J.len (d : Nat) {t : ETy} {l : List t.den} (hl : lookup st.fr d = some (.x (.c (.pd (.lst t l))))) (hk : l.length ≤ maxLen → J P f root Γ Q todo st) : J P f root Γ Q todo st := by
  intro hT V a w r
  have h : PR V.H (.lst t l) (a.tmps.getD d undef) := r.slots d _ (lookup_mem hl)
  refine hk ?_ hT V a w r
  generalize a.tmps.getD d undef = u at h
  cases h with
  | emp _ ao cap h => exact Nat.zero_le _
  | lst _ _ b off cap cells e fr hb hc hm hs h => exact Nat.le_trans hc hm
end
end Go.Ev

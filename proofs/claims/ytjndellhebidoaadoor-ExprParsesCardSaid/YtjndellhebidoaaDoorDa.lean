/- An executor for function bodies of the model over data, part PR: how a contract is proved, and the rules where the executor stops. Conditions: each rule's own. Plain functions: names, cells, kinds. Conditions: none. -/
import Derived.Test.YtjndellhebidoaaDoorPQ
import Derived.Test.YtjndellhebidoaaDoorRows
namespace Go.Ev
open Go.RowKit

/-! ### short forms -/
abbrev SX.p (p : PD) : SX := .c (.pd p)
abbrev SX.i (n : Int) : SX := .c (.pd (.int .i64 n))
abbrev SX.b (b : Bool) : SX := .c (.pd (.bool b))
abbrev SX.s (s : Str) : SX := .c (.pd (.str s))
abbrev SX.l (t : ETy) (l : List t.den) : SX := .c (.pd (.lst t l))
abbrev SX.e (t : ETy) (x : t.den) : SX := .agg ((t.enc x).map .pd)
abbrev bodyOf (fn : Func) : Code := fn.body.getD .skip
theorem body_some {fn : Func} (h : fn.body.isSome = true) : fn.body = some (bodyOf fn) := by
  unfold bodyOf; cases hb : fn.body <;> simp_all
theorem wrapI {n : Int} (h0 : -9223372036854775808 ≤ n) (h1 : n ≤ 9223372036854775807) : IntKind.wrap .i64 n = n := by
  unfold IntKind.wrap
  simp only [IntKind.bits, IntKind.signed]
  simp
  omega
theorem wrapK {k : Nat} (h : k < 9223372036854775807) : IntKind.wrap .i64 ((k : Int) + 1) = ((k + 1 : Nat) : Int) := by
  rw [wrapI (by omega) (by omega)]; omega

def opAt (root : Code) (p : List Nat) (i : Nat) : Option Oper := (opsOf (sub root p))[i]?
/-! ### a call's beginning -/
def initFr : List SX → Nat → List (Nat × SV)
  | [], _ => []
  | v :: r, i => (i, .x v) :: initFr r (i + 1)
def initST (n : Nat) (vs : List SX) (ck : List Chunk) : ST := { n := n, fr := initFr vs 0, ck := ck, m := ck.length }
theorem initFr_mem : ∀ {vs : List SX} {i t : Nat} {sv : SV}, (t, sv) ∈ initFr vs i → ∃ v, sv = .x v ∧ i ≤ t ∧ vs[t - i]? = some v
  | [], _, _, _, h => by simp [initFr] at h
  | v :: r, i, t, sv, h => by
    rcases List.mem_cons.1 h with h | h
    · simp only [Prod.mk.injEq] at h; obtain ⟨rfl, rfl⟩ := h; exact ⟨v, rfl, Nat.le_refl _, by simp⟩
    · obtain ⟨u, h1, h2, h3⟩ := initFr_mem h
      exact ⟨u, h1, by omega, by rw [show t - i = (t - (i + 1)) + 1 from by omega, List.getElem?_cons_succ]; exact h3⟩
/-- Two outs, one behind the other. -/
def Eq2 (ret : SV) (ck' : List Chunk) : Out := fun v ck => v = ret ∧ ck = ck'
theorem calls_of_J {P : Program} {f : FuncId} {fn : Func} {root : Code} {args : List SX} {ck : List Chunk} {Q : Out} (hf : P.funcs[f]? = some fn) (hb : fn.body = some root) (hn : Nat.ble args.length fn.ntmps = true) {Γ : Ctx} (hm : Γ.m = ck.length)
    (h : J P f root Γ Q [.code []] (initST fn.ntmps args ck)) {w : World} {V : Vn} {vs : List Value} (hw : WOk Γ ck V w) (hT : Tabs P Γ.H0) (hv : All2 (SX.R V) args vs) : Calls P f vs.toArray w (PostQ Γ Q) := by
  refine Go.Sy.calls_of_fin hf hb ?_
  have hn' := Nat.le_of_ble_eq_true hn
  have hl := hv.length
  refine h hT V _ w { size := ?_, defers := rfl, slots := ?_, wok := hw, few := ⟨by rw [hm]; exact Nat.le_refl _, Nat.le_refl _⟩ }
  · simp [initST]; omega
  · intro t sv hm
    obtain ⟨v, rfl, _, h2⟩ := initFr_mem hm
    simp only [Nat.sub_zero] at h2
    obtain ⟨u, h3, h4⟩ := hv.get h2
    have ht : t < vs.length := (List.getElem?_eq_some_iff.1 h3).1
    show v.R V ((vs.toArray ++ Array.replicate (fn.ntmps - vs.toArray.size) undef).getD t undef)
    rw [Array.getD_eq_getD_getElem?, Array.getElem?_append_left (by simpa using ht)]
    simpa [h3] using h4
/-- A contract, by a walk. -/
theorem Does.of {P : Program} {f : FuncId} {fn : Func} {args : List SX} {ck : List Chunk} {ret : SV} {ck' : List Chunk} (hf : P.funcs[f]? = some fn) (hb : fn.body.isSome = true) (hn : Nat.ble args.length fn.ntmps = true)
    (h : ∀ Γ, J P f (bodyOf fn) Γ (Eq2 ret ck') [.code []] (initST fn.ntmps args ck)) : Does P f args ck ret ck' := by
  intro w V vs hw hT hv
  refine (calls_of_J hf (body_some hb) hn (Γ := entry ck V w) rfl (h _) hw hT hv).mono fun e w' hq => ?_
  obtain ⟨v, V', r, c, rfl, ⟨rfl, rfl⟩, h1, h2⟩ := hq
  exact ⟨v, V', rfl, h1, h2⟩
section
variable {P : Program} {cfg : Cfg} {f : FuncId} {fn : Func} {root : Code} {Γ : Ctx} {Q : Out} {st st' : ST} {todo : List PI}
/-- The executor's run, told as a tree. -/
theorem J.go (ht : TabOk P cfg.tab) (hf : P.funcs[f]? = some fn) (n : Nat) {t : Tree} (he : exec P cfg fn root n todo st = t) (h : t.J P f root Γ Q) : J P f root Γ Q todo st :=
  exec_sound ht hf n todo st (he ▸ h)
/-- A contract without stops. -/
theorem Does.go {args : List SX} {ck : List Chunk} {ret : SV} {ck' : List Chunk} (ht : TabOk P cfg.tab) (hf : P.funcs[f]? = some fn) (hb : fn.body.isSome = true) (hn : Nat.ble args.length fn.ntmps = true) {t : Tree}
    (he : exec P cfg fn (bodyOf fn) 1000 [.code []] (initST fn.ntmps args ck) = t) (h : ∀ Γ, t.J P f (bodyOf fn) Γ (Eq2 ret ck')) : Does P f args ck ret ck' :=
  Does.of hf hb hn fun Γ => J.go ht hf 1000 he (h Γ)
/-- Which truths are written out is a mark alone. -/
theorem J.kn (l : List Nat) (h : J P f root Γ Q todo { st with kn := l }) : J P f root Γ Q todo st :=
  fun hT V a w r => h hT V a w ⟨r.1, r.2, r.3, r.4, r.5⟩
/-- A guarded operation whose guard's slot is known to hold what is wanted. -/
theorem J.wanted (ht : TabOk P cfg.tab) {p : List Nat} {i j d : Nat} {k : List PI} {o : Oper} {want : Bool} (ho : (opsOf (sub root p))[i]? = some o) (hg : o.guard = some (j, want)) (hs : ((opsOf (sub root p))[j]?).bind (·.dst) = some d)
    (hb : lookup st.fr d = some (.x (.c (.pd (.bool want))))) {q : Option Prop} (h : op1a P cfg o st = some (q, st')) (hq : Holds q) (hk : J P f root Γ Q (.ops p (i + 1) :: k) st') : J P f root Γ Q (.ops p i :: k) st := by
  intro hT V a w r
  have hon : a.tmps.getD d undef = .bool want := by
    have := r.slots d _ (lookup_mem hb)
    have h2 : SX.R V (.c (.pd (.bool want))) (a.tmps.getD d undef) := this
    generalize a.tmps.getD d undef = u at h2 ⊢
    cases h2; rfl
  have hi : i < (opsOf (sub root p)).size := (Array.getElem?_eq_some_iff.1 ho).1
  have hsz : (opsOf (sub root p)).size - i = ((opsOf (sub root p)).size - (i + 1)) + 1 := by omega
  simp only [List.map_cons, PI.den]
  rw [hsz, List.range'_succ]
  exact op1a_sound ⟨ht, hT⟩ r ho (wanted_on hg hs hon) h hq fun V' a' w' r' => hk hT V' a' w' r'
/-- The same, found by the kernel. -/
def wantedRun (P : Program) (cfg : Cfg) (root : Code) (p : List Nat) (i : Nat) (st : ST) : Option (Option Prop × ST) :=
  match (opsOf (sub root p))[i]? with
  | some o => match o.guard with
    | some (j, want) => match ((opsOf (sub root p))[j]?).bind (·.dst) with
      | some d => match lookup st.fr d with
        | some (.x (.c (.pd (.bool true)))) => match want with
          | true => op1a P cfg o st
          | false => none
        | _ => none
      | none => none
    | none => none
  | none => none
theorem J.run (ht : TabOk P cfg.tab) {p : List Nat} {i : Nat} {k : List PI} {q : Option Prop} (h : wantedRun P cfg root p i st = some (q, st')) (hq : Holds q) (hk : J P f root Γ Q (.ops p (i + 1) :: k) st') : J P f root Γ Q (.ops p i :: k) st := by
  unfold wantedRun at h
  split at h
  · rename_i o ho
    split at h
    · rename_i j want hg
      split at h
      · rename_i d hd
        split at h
        · rename_i hb
          split at h
          · exact J.wanted ht ho hg hd hb h hq hk
          · cases h
        · cases h
      · cases h
    · cases h
  · cases h
theorem J.eq (h : st = st') (hk : J P f root Γ Q todo st') : J P f root Γ Q todo st := h ▸ hk
theorem J.mono {Q' : Out} (h : ∀ v ck, Q' v ck → Q v ck) (hk : J P f root Γ Q' todo st) : J P f root Γ Q todo st := by
  intro hT V a w r b cs hb hkd
  obtain ⟨e, w', fr, hq, h1, h2, h3⟩ := hk hT V a w r b cs hb hkd
  obtain ⟨v, V', ret, ck', q1, q2, q3, q4⟩ := hq
  exact ⟨e, w', fr, ⟨v, V', ret, ck', q1, h _ _ q2, q3, q4⟩, h1, h2, h3⟩
/-- A nil slice in a slot: an empty one that the call owns. -/
theorem J.nilOwn (d : Nat) (e : TypeId) (t : ETy) (hl : (match lookup st.fr d with | some (.x (.c (.pd (.v (.slice none 0 0))))) => true | _ => false) = true) (hwf : st.wf = true)
    (hk : J P f root Γ Q todo { st with fr := st.fr.map (fun p => bif Nat.beq p.1 d then (p.1, .x (.c (.own st.ck.length))) else p), ck := st.ck ++ [.own e t []] }) : J P f root Γ Q todo st := by
  intro hT V a w r
  have hnil : a.tmps.getD d undef = .slice none 0 0 := by
    split at hl
    · rename_i hlk
      have := r.slots d _ (lookup_mem hlk)
      have h2 : SX.R V (.c (.pd (.v (.slice none 0 0)))) (a.tmps.getD d undef) := this
      generalize a.tmps.getD d undef = u at h2 ⊢
      cases h2; rfl
    · cases hl
  have hwf2 : ckWf st.ck = true := by simp only [ST.wf, Bool.and_eq_true] at hwf; exact hwf.2
  obtain ⟨V', hag, _, _, e2, hw⟩ := r.wok.regrow hwf2 (Nat.le_trans r.few.1 r.few.2) none (c := .own e t []) (v' := .slice none 0 0) (s' := 0) (w' := w) (row := none) (by simp) (World.grownBy.refl _ _) (fun V' hag hH f1 f2 => by
    refine ⟨⟨[], ?_, .nil, fun b hb => by rw [f2] at hb; simp [Value.ownBlock] at hb⟩, fun b hb => by simp [Chunk.blk, f2, Value.ownBlock] at hb⟩
    rw [f2]; exact World.ownsRow_nil w 0 e t.size)
  refine hk hT V' a w { size := r.size, defers := r.defers, slots := ?_, wok := hw, few := ⟨r.few.1, by show st.m ≤ (st.ck ++ [Chunk.own e t []]).length; rw [List.length_append]; have := r.few.2; omega⟩ }
  intro s sv hm
  obtain ⟨⟨s', sv'⟩, h5, h6⟩ := List.mem_map.1 hm
  simp only [ST.wf, Bool.and_eq_true] at hwf
  cases hb : Nat.beq s' d
  · rw [hb] at h6
    simp only [cond_false, Prod.mk.injEq] at h6
    obtain ⟨rfl, rfl⟩ := h6
    exact (r.slots _ _ h5).agree hag (List.all_eq_true.1 hwf.1 _ h5)
  · rw [hb] at h6
    simp only [cond_true, Prod.mk.injEq] at h6
    obtain ⟨rfl, rfl⟩ := h6
    rw [Nat.eq_of_beq_eq_true hb]
    show _ = V'.ov _
    rw [hnil, e2]
/-- A nil slice in a slot: an empty one. -/
theorem J.nilLst (d : Nat) (t : ETy) (hl : (match lookup st.fr d with | some (.x (.c (.pd (.v (.slice none 0 0))))) => true | _ => false) = true)
    (hk : J P f root Γ Q todo { st with fr := st.fr.map (fun p => bif Nat.beq p.1 d then (p.1, .x (.c (.pd (.lst t [])))) else p) }) : J P f root Γ Q todo st := by
  intro hT V a w r
  have hnil : a.tmps.getD d undef = .slice none 0 0 := by
    split at hl
    · rename_i hlk
      have := r.slots d _ (lookup_mem hlk)
      have h2 : SX.R V (.c (.pd (.v (.slice none 0 0)))) (a.tmps.getD d undef) := this
      generalize a.tmps.getD d undef = u at h2 ⊢
      cases h2; rfl
    · cases hl
  refine hk hT V a w { size := r.size, defers := r.defers, slots := ?_, wok := r.wok, few := r.few }
  intro s sv hm
  obtain ⟨⟨s', sv'⟩, h5, h6⟩ := List.mem_map.1 hm
  cases hb : Nat.beq s' d
  · rw [hb] at h6
    simp only [cond_false, Prod.mk.injEq] at h6
    obtain ⟨rfl, rfl⟩ := h6
    exact r.slots _ _ h5
  · rw [hb] at h6
    simp only [cond_true, Prod.mk.injEq] at h6
    obtain ⟨rfl, rfl⟩ := h6
    rw [Nat.eq_of_beq_eq_true hb]
    show PR V.H _ _
    rw [hnil]; exact .emp t none 0 (fun _ => rfl)
/-- A block, given to those that only read. -/
theorem J.freeze (tys : Tys) (l : List Nat) (hz : frzs tys st l = some st') (hk : J P f root Γ Q todo st') : J P f root Γ Q todo st := by
  intro hT V a w r
  obtain ⟨V', r'⟩ := frzs_rel r hz
  exact hk hT V' a w r'
/-- How long a slice in a slot may be. -/
theorem J.len (d : Nat) {t : ETy} {l : List t.den} (hl : lookup st.fr d = some (.x (.c (.pd (.lst t l))))) (hk : l.length ≤ maxLen → J P f root Γ Q todo st) : J P f root Γ Q todo st := by
  intro hT V a w r
  have h : PR V.H (.lst t l) (a.tmps.getD d undef) := r.slots d _ (lookup_mem hl)
  refine hk ?_ hT V a w r
  generalize a.tmps.getD d undef = u at h
  cases h with
  | emp _ ao cap h => exact Nat.zero_le _
  | lst _ _ b off cap cells e fr hb hc hm hs h => exact Nat.le_trans hc hm
theorem J.lenOwn (i : Nat) {e : TypeId} {t : ETy} {l : List t.den} (hc : st.ck[i]? = some (.own e t l)) (hk : l.length ≤ maxLen → J P f root Γ Q todo st) : J P f root Γ Q todo st := by
  intro hT V a w r
  obtain ⟨xs, h, _⟩ := r.wok.own i _ hc
  refine hk ?_ hT V a w r
  rcases h.2 with ⟨_, h2⟩ | ⟨g, cap, cur, _, _, _, h4, h5, _⟩
  · omega
  · exact Nat.le_trans h4 h5
theorem maxLen_lt {k n : Nat} (h : k < n) (hn : n ≤ maxLen) : k < 9223372036854775807 := by unfold maxLen at hn; omega
end
/-- A contract that is owed where it is used: the result by a function of the prover's. -/
def hypE (P : Program) (g : Nat) (r : List SX → SV) : Nat × (List SX → List Chunk → Option (Option Prop × SV × List Chunk)) := (g, fun args ck => some (some (Does P g args ck (r args) []), r args, []))
theorem hypE_ok {P : Program} {g : Nat} {r : List SX → SV} (vs : List SX) (ck : List Chunk) (p : Option Prop) (ret : SV) (ck' : List Chunk) (h : (hypE P g r).2 vs ck = some (p, ret, ck')) (hp : Holds p) : Does P (hypE P g r).1 vs ck ret ck' := by
  simp only [hypE, Option.some.injEq, Prod.mk.injEq] at h
  obtain ⟨rfl, rfl, rfl⟩ := h
  exact hp
end Go.Ev
namespace Go.Proofs.YtjndellhebidoaaDoor
open Go Go.Ev
def tys0 : Tys := [(2, .int), (3, .int), (4, .bool), (5, .byte), (9, .str), (22, .cells), (38, .cell), (44, .piece), (64, .wait)]
def cfg0 : Cfg := ⟨tys0, []⟩
theorem cfg0_ok : TabOk Tryd.prog cfg0.tab := TabOk.nil

def badB (c : UInt8) : Bool :=
  (decide ((c.toNat : Int) < 97) || decide ((c.toNat : Int) > 122)) && (decide ((c.toNat : Int) < 48) || decide ((c.toNat : Int) > 57)) && ((c.toNat : Int) != 95)
def name0 (s : Str) : Bool := s == [] || decide (strLen s > 12) || decide (((s.getD 0 0).toNat : Int) < 97) || decide (((s.getD 0 0).toNat : Int) > 122)
def words5 (s : Str) : Bool := s == [116, 114, 117, 101] || s == [102, 97, 108, 115, 101] || s == [105, 110] || s == [114, 101] || s == [105, 109]
/-- words.Name -/
def nameM (s : Str) : Bool := !(name0 s) && !(s.any badB) && !(words5 s)
/-- expr.wants -/
def wantsM (op a : Int) (s : Str) : Int :=
  bif op == 1 then (bif decide (a < 0) || decide (a > 1099511627776) || !s == [] then -1 else 0)
  else bif op == 2 then (bif decide (a < 0) || decide (a > 1048576) || !s == [] then -1 else 0)
  else bif op == 5 then (bif a != 0 || !nameM s then -1 else 0)
  else bif op == 6 then (bif a != 0 || !nameM s then -1 else 0)
  else bif decide (op < 3) || decide (op > 23) || a != 0 || !s == [] then -1
  else bif decide (op ≤ 4) then 0 else bif decide (op ≤ 10) then 1 else 2
abbrev wantsC (c : Cell) : Int := wantsM c.op c.a c.name
/-- expr.Right -/
def rightGo : List Cell → Int → Bool
  | [], n => n == 1
  | c :: r, n => bif decide (wantsC c < 0) || decide (wantsC c > n) then false else rightGo r (n + (1 - wantsC c))
def rightM (l : List Cell) : Bool := !decide ((l.length : Int) > 32) && rightGo l 0
def fitsK (op l r : Int) (k : KRow) : Bool := decide (op ≥ k.low) && decide (op ≤ k.high) && l == k.left && r == k.right
/-- kinds.rows -/
def krows : List KRow := [⟨7, 7, 1, 0, 1⟩, ⟨7, 7, 3, 0, 3⟩, ⟨8, 8, 2, 0, 2⟩, ⟨9, 10, 3, 0, 1⟩, ⟨11, 15, 1, 1, 1⟩, ⟨11, 13, 3, 3, 3⟩, ⟨16, 21, 1, 1, 2⟩, ⟨16, 17, 2, 2, 2⟩, ⟨16, 17, 3, 3, 2⟩, ⟨22, 23, 2, 2, 2⟩]
/-- kinds.made -/
def madeGo (op l r : Int) : List KRow → Int
  | [] => 0
  | k :: rest => bif fitsK op l r k then k.out else madeGo op l r rest
def madeM (op l r : Int) : Int := madeGo op l r krows
/-- the first place at which p holds; -1: none -/
def firstAt {α : Type} (p : α → Bool) : List α → Int → Int
  | [], _ => -1
  | x :: r, i => bif p x then i else firstAt p r (i + 1)
def findVar (vars : List Var) (name : Str) : Option Var := vars.find? fun v => v.name == name
/-- kinds.leaf: the kind, the error -/
def leafM (c : Cell) (vars : List Var) (states : List Str) : Int × Int :=
  bif c.op == 1 then (1, 0)
  else bif c.op == 2 then (3, 0)
  else bif c.op == 5 then (match findVar vars c.name with
    | none => (0, 2)
    | some v => bif decide (v.kind ≥ 1) && decide (v.kind ≤ 3) then (v.kind, 0) else (0, 8))
  else bif c.op == 6 then (bif !states.any (fun s => s == c.name) then (0, 2) else (2, 0))
  else (2, 0)
/-- kinds.Of: what one cell makes of the stack: the kind, the error, the stack left -/
def kindStep (vars : List Var) (states : List Str) (c : Cell) (st : List Int) : Int × Int × List Int :=
  bif decide (c.op < 7) then ((leafM c vars states).1, (leafM c vars states).2, st)
  else bif decide (c.op < 11) then (madeM c.op (st.getD 0 0) 0, 0, st.drop 1)
  else (madeM c.op (st.getD 1 0) (st.getD 0 0), 0, st.drop 2)
def kindGo (vars : List Var) (states : List Str) : List Cell → List Int → Int × Int
  | [], st => (st.getLastD 0, 0)
  | c :: r, st =>
    let s := kindStep vars states c st
    let e := bif s.2.1 == 0 && s.1 == 0 then 8 else s.2.1
    bif e != 0 then (0, e) else kindGo vars states r (s.1 :: s.2.2)
def kindsM (l : List Cell) (vars : List Var) (states : List Str) : Int × Int :=
  bif !rightM l then (0, 1) else kindGo vars states l []
def intP (p : Int × Int) : SV := .tup [.i p.1, .i p.2]
theorem any_getD {p : UInt8 → Bool} {s : List UInt8} {k : Nat} (hk : k < s.length) (h : p (s.getD k 0) = true) : s.any p = true := by
  rw [List.any_eq_true]
  refine ⟨s.getD k 0, ?_, h⟩
  rw [List.getD_eq_getElem?_getD, List.getElem?_eq_getElem hk]
  exact List.getElem_mem hk
theorem not_any_getD {p : UInt8 → Bool} {s : List UInt8} (h : ∀ j, j < s.length → p (s.getD j 0) = false) : s.any p = false := by
  rw [List.any_eq_false]
  intro x hx
  obtain ⟨j, hj, rfl⟩ := List.getElem_of_mem hx
  have := h j hj
  rw [List.getD_eq_getElem?_getD, List.getElem?_eq_getElem hj] at this
  simpa using this
theorem drop_get {t : ETy} {l : List t.den} {k : Nat} (h : k < l.length) : l.drop k = t.get l k :: l.drop (k + 1) := by
  rw [List.drop_eq_getElem_cons h, ETy.get_eq (List.getElem?_eq_getElem h)]
theorem drop_end {α : Type} {l : List α} {k : Nat} (h : ¬ k < l.length) : l.drop k = [] := List.drop_eq_nil_of_le (by omega)
/-! ### pieces of texts -/
def seg (s : Str) (f k : Nat) : Str := (s.take k).drop f
theorem seg_self (s : Str) (k : Nat) : seg s k k = [] := by
  unfold seg; rw [List.drop_eq_nil_iff, List.length_take]; omega
theorem drop_byte {s : Str} {k : Nat} (h : k < s.length) : s.drop k = s.getD k 0 :: s.drop (k + 1) := by
  rw [List.drop_eq_getElem_cons h, List.getD_eq_getElem?_getD, List.getElem?_eq_getElem h]; rfl
theorem seg_succ {s : Str} {f k : Nat} (h : k < s.length) (hf : f ≤ k) : seg s f (k + 1) = seg s f k ++ [s.getD k 0] := by
  unfold seg
  rw [List.take_succ_eq_append_getElem h, List.drop_append_of_le_length (by rw [List.length_take]; omega), List.getD_eq_getElem?_getD, List.getElem?_eq_getElem h]; rfl
theorem seg_ne {s : Str} {f k : Nat} (h : f < k) (hk : k ≤ s.length) : seg s f k ≠ [] := by
  unfold seg
  intro e
  have := congrArg List.length e
  rw [List.length_drop, List.length_take] at this
  simp at this; omega
end Go.Proofs.YtjndellhebidoaaDoor

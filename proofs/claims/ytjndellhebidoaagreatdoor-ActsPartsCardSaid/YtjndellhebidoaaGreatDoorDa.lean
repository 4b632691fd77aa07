/- An executor for function bodies of the model over data, part PR: how a contract is proved, and the rules where the executor stops. Conditions: each rule's own. Texts cut at a byte: plain. Conditions: none. Plain functions: names, cells, kinds. Conditions: none. -/
import Derived.Test.YtjndellhebidoaaGreatDoorPQ
import Derived.Lib.SplitLaws
import Derived.Test.YtjndellhebidoaaGreatDoorRows
namespace Go.Ev
open Go.RowKit

/-! ### short forms -/
abbrev SX.p (p : PD) : SX := .c (.pd p)
abbrev SX.i (n : Int) : SX := .c (.pd (.int .i64 n))
abbrev SX.b (b : Bool) : SX := .c (.pd (.bool b))
abbrev SX.s (s : Str) : SX := .c (.pd (.str s))
abbrev SX.l (t : ETy) (l : List t.den) : SX := .c (.pd (.lst t l))
abbrev SX.e (t : ETy) (x : t.den) : SX := .agg ((t.enc x).map .pd)
abbrev bodyOf (fn : Func) : Code := fn.body.getD .skip
theorem body_some {fn : Func} (h : fn.body.isSome = true) : fn.body = some (bodyOf fn) := by
  unfold bodyOf; cases hb : fn.body <;> simp_all
theorem wrapI {n : Int} (h0 : -9223372036854775808 ≤ n) (h1 : n ≤ 9223372036854775807) : IntKind.wrap .i64 n = n := by
  unfold IntKind.wrap
  simp only [IntKind.bits, IntKind.signed]
  simp
  omega
theorem wrapK {k : Nat} (h : k < 9223372036854775807) : IntKind.wrap .i64 ((k : Int) + 1) = ((k + 1 : Nat) : Int) := by
  rw [wrapI (by omega) (by omega)]; omega

/-! ### a call's beginning -/
def initFr : List SX → Nat → List (Nat × SV)
  | [], _ => []
  | v :: r, i => (i, .x v) :: initFr r (i + 1)
def initST (n : Nat) (vs : List SX) (ck : List Chunk) : ST := { n := n, fr := initFr vs 0, ck := ck, m := ck.length }
theorem initFr_mem : ∀ {vs : List SX} {i t : Nat} {sv : SV}, (t, sv) ∈ initFr vs i → ∃ v, sv = .x v ∧ i ≤ t ∧ vs[t - i]? = some v
  | [], _, _, _, h => by simp [initFr] at h
  | v :: r, i, t, sv, h => by
    rcases List.mem_cons.1 h with h | h
    · simp only [Prod.mk.injEq] at h; obtain ⟨rfl, rfl⟩ := h; exact ⟨v, rfl, Nat.le_refl _, by simp⟩
    · obtain ⟨u, h1, h2, h3⟩ := initFr_mem h
      exact ⟨u, h1, by omega, by rw [show t - i = (t - (i + 1)) + 1 from by omega, List.getElem?_cons_succ]; exact h3⟩
def Eq2 (ret : SV) (ck' : List Chunk) : Out := fun v ck => v = ret ∧ ck = ck'
theorem calls_of_J {P : Program} {f : FuncId} {fn : Func} {root : Code} {args : List SX} {ck : List Chunk} {Q : Out} (hf : P.funcs[f]? = some fn) (hb : fn.body = some root) (hn : Nat.ble args.length fn.ntmps = true) {Γ : Ctx} (hm : Γ.m = ck.length)
    (h : J P f root Γ Q [.code []] (initST fn.ntmps args ck)) {w : World} {V : Vn} {vs : List Value} (hw : WOk Γ ck V w) (hT : Tabs P Γ.H0) (hv : All2 (SX.R V) args vs) : Calls P f vs.toArray w (PostQ Γ Q) := by
  refine Go.Sy.calls_of_fin hf hb ?_
  have hn' := Nat.le_of_ble_eq_true hn
  have hl := hv.length
  refine h hT V _ w { size := ?_, defers := rfl, slots := ?_, wok := hw, few := ⟨by rw [hm]; exact Nat.le_refl _, Nat.le_refl _⟩ }
  · simp [initST]; omega
  · intro t sv hm
    obtain ⟨v, rfl, _, h2⟩ := initFr_mem hm
    simp only [Nat.sub_zero] at h2
    obtain ⟨u, h3, h4⟩ := hv.get h2
    have ht : t < vs.length := (List.getElem?_eq_some_iff.1 h3).1
    show v.R V ((vs.toArray ++ Array.replicate (fn.ntmps - vs.toArray.size) undef).getD t undef)
    rw [Array.getD_eq_getD_getElem?, Array.getElem?_append_left (by simpa using ht)]
    simpa [h3] using h4
theorem Does.of {P : Program} {f : FuncId} {fn : Func} {args : List SX} {ck : List Chunk} {ret : SV} {ck' : List Chunk} (hf : P.funcs[f]? = some fn) (hb : fn.body.isSome = true) (hn : Nat.ble args.length fn.ntmps = true)
    (h : ∀ Γ, J P f (bodyOf fn) Γ (Eq2 ret ck') [.code []] (initST fn.ntmps args ck)) : Does P f args ck ret ck' := by
  intro w V vs hw hT hv
  refine (calls_of_J hf (body_some hb) hn (Γ := entry ck V w) rfl (h _) hw hT hv).mono fun e w' hq => ?_
  obtain ⟨v, V', r, c, rfl, ⟨rfl, rfl⟩, h1, h2⟩ := hq
  exact ⟨v, V', rfl, h1, h2⟩
section
variable {P : Program} {cfg : Cfg} {f : FuncId} {fn : Func} {root : Code} {Γ : Ctx} {Q : Out} {st st' : ST} {todo : List PI}
theorem J.go (ht : TabOk P cfg.tab) (hf : P.funcs[f]? = some fn) (n : Nat) {t : Tree} (he : exec P cfg fn root n todo st = t) (h : t.J P f root Γ Q) : J P f root Γ Q todo st :=
  exec_sound ht hf n todo st (he ▸ h)
theorem Does.go {args : List SX} {ck : List Chunk} {ret : SV} {ck' : List Chunk} (ht : TabOk P cfg.tab) (hf : P.funcs[f]? = some fn) (hb : fn.body.isSome = true) (hn : Nat.ble args.length fn.ntmps = true) {t : Tree}
    (he : exec P cfg fn (bodyOf fn) 1000 [.code []] (initST fn.ntmps args ck) = t) (h : ∀ Γ, t.J P f (bodyOf fn) Γ (Eq2 ret ck')) : Does P f args ck ret ck' :=
  Does.of hf hb hn fun Γ => J.go ht hf 1000 he (h Γ)
theorem J.kn (l : List Nat) (h : J P f root Γ Q todo { st with kn := l }) : J P f root Γ Q todo st :=
  fun hT V a w r => h hT V a w ⟨r.1, r.2, r.3, r.4, r.5⟩
theorem J.wanted (ht : TabOk P cfg.tab) {p : List Nat} {i j d : Nat} {k : List PI} {o : Oper} {want : Bool} (ho : (opsOf (sub root p))[i]? = some o) (hg : o.guard = some (j, want)) (hs : ((opsOf (sub root p))[j]?).bind (·.dst) = some d)
    (hb : lookup st.fr d = some (.x (.c (.pd (.bool want))))) {q : Option Prop} (h : op1a P cfg o st = some (q, st')) (hq : Holds q) (hk : J P f root Γ Q (.ops p (i + 1) :: k) st') : J P f root Γ Q (.ops p i :: k) st := by
  intro hT V a w r
  have hon : a.tmps.getD d undef = .bool want := by
    have := r.slots d _ (lookup_mem hb)
    have h2 : SX.R V (.c (.pd (.bool want))) (a.tmps.getD d undef) := this
    generalize a.tmps.getD d undef = u at h2 ⊢
    cases h2; rfl
  have hi : i < (opsOf (sub root p)).size := (Array.getElem?_eq_some_iff.1 ho).1
  have hsz : (opsOf (sub root p)).size - i = ((opsOf (sub root p)).size - (i + 1)) + 1 := by omega
  simp only [List.map_cons, PI.den]
  rw [hsz, List.range'_succ]
  exact op1a_sound ⟨ht, hT⟩ r ho (wanted_on hg hs hon) h hq fun V' a' w' r' => hk hT V' a' w' r'
def wantedRun (P : Program) (cfg : Cfg) (root : Code) (p : List Nat) (i : Nat) (st : ST) : Option (Option Prop × ST) :=
  match (opsOf (sub root p))[i]? with
  | some o => match o.guard with
    | some (j, want) => match ((opsOf (sub root p))[j]?).bind (·.dst) with
      | some d => match lookup st.fr d with
        | some (.x (.c (.pd (.bool true)))) => match want with
          | true => op1a P cfg o st
          | false => none
        | _ => none
      | none => none
    | none => none
  | none => none
theorem J.run (ht : TabOk P cfg.tab) {p : List Nat} {i : Nat} {k : List PI} {q : Option Prop} (h : wantedRun P cfg root p i st = some (q, st')) (hq : Holds q) (hk : J P f root Γ Q (.ops p (i + 1) :: k) st') : J P f root Γ Q (.ops p i :: k) st := by
  unfold wantedRun at h
  split at h
  · rename_i o ho
    split at h
    · rename_i j want hg
      split at h
      · rename_i d hd
        split at h
        · rename_i hb
          split at h
          · exact J.wanted ht ho hg hd hb h hq hk
          · cases h
        · cases h
      · cases h
    · cases h
  · cases h
theorem J.eq (h : st = st') (hk : J P f root Γ Q todo st') : J P f root Γ Q todo st := h ▸ hk
theorem J.mono {Q' : Out} (h : ∀ v ck, Q' v ck → Q v ck) (hk : J P f root Γ Q' todo st) : J P f root Γ Q todo st := by
  intro hT V a w r b cs hb hkd
  obtain ⟨e, w', fr, hq, h1, h2, h3⟩ := hk hT V a w r b cs hb hkd
  obtain ⟨v, V', ret, ck', q1, q2, q3, q4⟩ := hq
  exact ⟨e, w', fr, ⟨v, V', ret, ck', q1, h _ _ q2, q3, q4⟩, h1, h2, h3⟩
theorem J.nilOwn (d : Nat) (e : TypeId) (t : ETy) (hl : (match lookup st.fr d with | some (.x (.c (.pd (.v (.slice none 0 0))))) => true | _ => false) = true) (hwf : st.wf = true)
    (hk : J P f root Γ Q todo { st with fr := st.fr.map (fun p => bif Nat.beq p.1 d then (p.1, .x (.c (.own st.ck.length))) else p), ck := st.ck ++ [.own e t []] }) : J P f root Γ Q todo st := by
  intro hT V a w r
  have hnil : a.tmps.getD d undef = .slice none 0 0 := by
    split at hl
    · rename_i hlk
      have := r.slots d _ (lookup_mem hlk)
      have h2 : SX.R V (.c (.pd (.v (.slice none 0 0)))) (a.tmps.getD d undef) := this
      generalize a.tmps.getD d undef = u at h2 ⊢
      cases h2; rfl
    · cases hl
  have hwf2 : ckWf st.ck = true := by simp only [ST.wf, Bool.and_eq_true] at hwf; exact hwf.2
  obtain ⟨V', hag, _, _, e2, hw⟩ := r.wok.regrow hwf2 (Nat.le_trans r.few.1 r.few.2) none (c := .own e t []) (v' := .slice none 0 0) (s' := 0) (w' := w) (row := none) (by simp) (World.grownBy.refl _ _) (fun V' hag hH f1 f2 => by
    refine ⟨⟨[], ?_, .nil, fun b hb => by rw [f2] at hb; simp [Value.ownBlock] at hb⟩, fun b hb => by simp [Chunk.blk, f2, Value.ownBlock] at hb⟩
    rw [f2]; exact World.ownsRow_nil w 0 e t.size)
  refine hk hT V' a w { size := r.size, defers := r.defers, slots := ?_, wok := hw, few := ⟨r.few.1, by show st.m ≤ (st.ck ++ [Chunk.own e t []]).length; rw [List.length_append]; have := r.few.2; omega⟩ }
  intro s sv hm
  obtain ⟨⟨s', sv'⟩, h5, h6⟩ := List.mem_map.1 hm
  simp only [ST.wf, Bool.and_eq_true] at hwf
  cases hb : Nat.beq s' d
  · rw [hb] at h6
    simp only [cond_false, Prod.mk.injEq] at h6
    obtain ⟨rfl, rfl⟩ := h6
    exact (r.slots _ _ h5).agree hag (List.all_eq_true.1 hwf.1 _ h5)
  · rw [hb] at h6
    simp only [cond_true, Prod.mk.injEq] at h6
    obtain ⟨rfl, rfl⟩ := h6
    rw [Nat.eq_of_beq_eq_true hb]
    show _ = V'.ov _
    rw [hnil, e2]
theorem J.freeze (tys : Tys) (l : List Nat) (hz : frzs tys st l = some st') (hk : J P f root Γ Q todo st') : J P f root Γ Q todo st := by
  intro hT V a w r
  obtain ⟨V', r'⟩ := frzs_rel r hz
  exact hk hT V' a w r'
theorem J.len (d : Nat) {t : ETy} {l : List t.den} (hl : lookup st.fr d = some (.x (.c (.pd (.lst t l))))) (hk : l.length ≤ maxLen → J P f root Γ Q todo st) : J P f root Γ Q todo st := by
  intro hT V a w r
  have h : PR V.H (.lst t l) (a.tmps.getD d undef) := r.slots d _ (lookup_mem hl)
  refine hk ?_ hT V a w r
  generalize a.tmps.getD d undef = u at h
  cases h with
  | emp _ ao cap h => exact Nat.zero_le _
  | lst _ _ b off cap cells e fr hb hc hm hs h => exact Nat.le_trans hc hm
theorem maxLen_lt {k n : Nat} (h : k < n) (hn : n ≤ maxLen) : k < 9223372036854775807 := by unfold maxLen at hn; omega
end
end Go.Ev
namespace Go.Proofs.YtjndellhebidoaaGreatDoor
open Go Go.Ev
def partsGo : Str → Str → List Str
  | cur, [] => [cur]
  | cur, c :: r => bif c == 59 then cur :: partsGo [] r else partsGo (cur ++ [c]) r
def preM (s : Str) : Str := s.takeWhile fun c => !(c == 61)
def postM (s : Str) : Str := (s.dropWhile fun c => !(c == 61)).drop 1
def hasEq (s : Str) : Bool := s.any fun c => c == 61
theorem occ_one (s : Str) (b : UInt8) (j : Nat) : Lib.occAt s [b] j = true ↔ s[j]? = some b := by
  have h : s[j]? = (s.drop j).head? := by rw [List.head?_drop]
  rw [h]
  unfold Lib.occAt
  cases hd : s.drop j with
  | nil => simp [List.isPrefixOf]
  | cons x r => simp [List.isPrefixOf]; exact eq_comm
theorem index_byte (s : Str) (b : UInt8) : (Lib.index s [b] = -1 ∧ b ∉ s) ∨ ∃ a r, s = a ++ b :: r ∧ b ∉ a ∧ Lib.index s [b] = (a.length : Int) := by
  rcases Lib.index_spec s [b] with ⟨h1, h2⟩ | ⟨i, h1, h2, h3, h4⟩
  · refine .inl ⟨h1, fun hm => ?_⟩
    obtain ⟨j, hj, e⟩ := List.mem_iff_getElem.1 hm
    have := h2 j (by omega)
    rw [(occ_one s b j).2 (by rw [List.getElem?_eq_getElem hj, e])] at this
    cases this
  · have h5 := (occ_one s b i).1 h3
    obtain ⟨hi, h6⟩ := List.getElem?_eq_some_iff.1 h5
    refine .inr ⟨s.take i, s.drop (i + 1), ?_, fun hm => ?_, by rw [h1, List.length_take]; omega⟩
    · rw [← h6, ← List.drop_eq_getElem_cons hi, List.take_append_drop]
    · obtain ⟨j, hj, e⟩ := List.mem_iff_getElem.1 hm
      rw [List.length_take] at hj
      have h7 := h4 j (by omega)
      rw [(occ_one s b j).2 (by rw [List.getElem?_eq_getElem (by omega)]; rw [List.getElem_take] at e; rw [e])] at h7
      cases h7
theorem partsGo_none : ∀ (s cur : Str), (59 : UInt8) ∉ s → partsGo cur s = [cur ++ s]
  | [], cur, _ => by simp [partsGo]
  | c :: r, cur, h => by
    simp only [List.mem_cons, not_or] at h
    have hc : (c == 59) = false := by simpa using fun e => h.1 e.symm
    rw [partsGo, hc, cond_false, partsGo_none r _ h.2]; simp
theorem partsGo_app : ∀ (a cur b : Str), (59 : UInt8) ∉ a → partsGo cur (a ++ 59 :: b) = (cur ++ a) :: partsGo [] b
  | [], cur, b, _ => by simp [partsGo]
  | c :: r, cur, b, h => by
    simp only [List.mem_cons, not_or] at h
    have hc : (c == 59) = false := by simpa using fun e => h.1 e.symm
    rw [List.cons_append, partsGo, hc, cond_false, partsGo_app r _ b h.2]; simp
theorem splitK_parts : ∀ (k : Nat) (s : Str), Lib.count s [59] = k → Lib.splitK [59] 0 k s = partsGo [] s
  | 0, s, h => by
    rw [Lib.count_one] at h
    rw [partsGo_none s [] (List.count_eq_zero.1 h)]; rfl
  | k + 1, s, h => by
    rcases index_byte s 59 with ⟨h1, _⟩ | ⟨a, r, rfl, h2, h3⟩
    · rw [Lib.count_miss h1] at h; omega
    · have h4 := Lib.count_hit (by simp) h3
      have e : (a ++ 59 :: r).drop (a.length + 1) = r := by
        rw [← List.drop_drop, List.drop_left]; rfl
      rw [show ([59] : Str).length = 1 from rfl, e] at h4
      rw [Lib.splitK, if_neg (by rw [h3]; simp), h3, Int.toNat_natCast, show ([59] : Str).length = 1 from rfl, e, Nat.add_zero, List.take_left, partsGo_app a [] r h2, splitK_parts k r (by omega)]; rfl
theorem split_parts (s : Str) : (Lib.splitB ⟨#[59]⟩ 0 (Lib.countB (bs s) ⟨#[59]⟩) (bs s)).map (·.data.toList) = partsGo [] s := by
  rw [Lib.splitB_data]
  have e : (bs s).data.toList = s := bs_toList s
  rw [e]
  exact splitK_parts _ s (by show Lib.count s [59] = Lib.count (bs s).data.toList _; rw [e])
theorem cut_eq (s : Str) : Lib.cut s [61] = if hasEq s = true then (preM s, postM s, true) else (s, [], false) := by
  unfold Lib.cut
  rcases index_byte s 61 with ⟨h1, h2⟩ | ⟨a, r, rfl, h2, h3⟩
  · have : hasEq s = false := by
      unfold hasEq; rw [List.any_eq_false]; intro x hx e; exact h2 (by rw [← beq_iff_eq.1 e]; exact hx)
    rw [if_neg (by omega), this]; rfl
  · have e : (a ++ 61 :: r).drop (a.length + 1) = r := by
      rw [← List.drop_drop, List.drop_left]; rfl
    have ha : ∀ x ∈ a, (!(x == (61 : UInt8))) = true := fun x hx => by
      have : x ≠ 61 := fun e => h2 (e ▸ hx)
      simpa using this
    have : hasEq (a ++ 61 :: r) = true := by simp [hasEq]
    rw [if_pos (by omega), this, if_pos rfl, h3, Int.toNat_natCast, show ([61] : Str).length = 1 from rfl, e, List.take_left]
    have e1 : preM (a ++ 61 :: r) = a := by
      unfold preM; rw [List.takeWhile_append_of_pos ha]; simp
    have e2 : postM (a ++ 61 :: r) = r := by
      unfold postM; rw [List.dropWhile_append_of_pos ha]; simp
    rw [e1, e2]
theorem pre_no (s : Str) (h : hasEq s = false) : preM s = s ∧ postM s = [] := by
  have ha : ∀ x ∈ s, (!(x == (61 : UInt8))) = true := fun x hx => by
    have := (List.any_eq_false.1 h) x hx
    simpa using this
  constructor
  · unfold preM; have := List.takeWhile_append_of_pos (l₂ := []) ha; simpa using this
  · unfold postM; have := List.dropWhile_append_of_pos (l₂ := []) ha; simp at this; rw [this]; rfl
end Go.Proofs.YtjndellhebidoaaGreatDoor
namespace Go.Proofs.YtjndellhebidoaaGreatDoor
open Go Go.Ev
def tys0 : Tys := [(2, .int), (3, .int), (4, .bool), (5, .byte), (9, .str), (22, .deeds), (31, .vars), (32, .vals), (36, .strs), (49, .val), (51, .var), (58, .cells), (60, .deed), (88, .cell), (102, .piece), (155, .wait)]
def cfg0 : Cfg := ⟨tys0, []⟩
theorem cfg0_ok : TabOk Tryz.prog cfg0.tab := TabOk.nil

def badB (c : UInt8) : Bool :=
  (decide ((c.toNat : Int) < 97) || decide ((c.toNat : Int) > 122)) && (decide ((c.toNat : Int) < 48) || decide ((c.toNat : Int) > 57)) && ((c.toNat : Int) != 95)
def name0 (s : Str) : Bool := s == [] || decide (strLen s > 12) || decide (((s.getD 0 0).toNat : Int) < 97) || decide (((s.getD 0 0).toNat : Int) > 122)
def words5 (s : Str) : Bool := s == [116, 114, 117, 101] || s == [102, 97, 108, 115, 101] || s == [105, 110] || s == [114, 101] || s == [105, 109]
def nameM (s : Str) : Bool := !(name0 s) && !(s.any badB) && !(words5 s)
def wantsM (op a : Int) (s : Str) : Int :=
  bif op == 1 then (bif decide (a < 0) || decide (a > 1099511627776) || !s == [] then -1 else 0)
  else bif op == 2 then (bif decide (a < 0) || decide (a > 1048576) || !s == [] then -1 else 0)
  else bif op == 5 then (bif a != 0 || !nameM s then -1 else 0)
  else bif op == 6 then (bif a != 0 || !nameM s then -1 else 0)
  else bif decide (op < 3) || decide (op > 23) || a != 0 || !s == [] then -1
  else bif decide (op ≤ 4) then 0 else bif decide (op ≤ 10) then 1 else 2
abbrev wantsC (c : Cell) : Int := wantsM c.op c.a c.name
def rightGo : List Cell → Int → Bool
  | [], n => n == 1
  | c :: r, n => bif decide (wantsC c < 0) || decide (wantsC c > n) then false else rightGo r (n + (1 - wantsC c))
def rightM (l : List Cell) : Bool := !decide ((l.length : Int) > 32) && rightGo l 0
def firstAt {α : Type} (p : α → Bool) : List α → Int → Int
  | [], _ => -1
  | x :: r, i => bif p x then i else firstAt p r (i + 1)
def intP (p : Int × Int) : SV := .tup [.i p.1, .i p.2]
theorem any_getD {p : UInt8 → Bool} {s : List UInt8} {k : Nat} (hk : k < s.length) (h : p (s.getD k 0) = true) : s.any p = true := by
  rw [List.any_eq_true]
  refine ⟨s.getD k 0, ?_, h⟩
  rw [List.getD_eq_getElem?_getD, List.getElem?_eq_getElem hk]
  exact List.getElem_mem hk
theorem not_any_getD {p : UInt8 → Bool} {s : List UInt8} (h : ∀ j, j < s.length → p (s.getD j 0) = false) : s.any p = false := by
  rw [List.any_eq_false]
  intro x hx
  obtain ⟨j, hj, rfl⟩ := List.getElem_of_mem hx
  have := h j hj
  rw [List.getD_eq_getElem?_getD, List.getElem?_eq_getElem hj] at this
  simpa using this
theorem drop_get {t : ETy} {l : List t.den} {k : Nat} (h : k < l.length) : l.drop k = t.get l k :: l.drop (k + 1) := by
  rw [List.drop_eq_getElem_cons h, ETy.get_eq (List.getElem?_eq_getElem h)]
theorem drop_end {α : Type} {l : List α} {k : Nat} (h : ¬ k < l.length) : l.drop k = [] := List.drop_eq_nil_of_le (by omega)
/-! ### pieces of texts -/
def seg (s : Str) (f k : Nat) : Str := (s.take k).drop f
theorem seg_self (s : Str) (k : Nat) : seg s k k = [] := by
  unfold seg; rw [List.drop_eq_nil_iff, List.length_take]; omega
theorem drop_byte {s : Str} {k : Nat} (h : k < s.length) : s.drop k = s.getD k 0 :: s.drop (k + 1) := by
  rw [List.drop_eq_getElem_cons h, List.getD_eq_getElem?_getD, List.getElem?_eq_getElem h]; rfl
theorem seg_succ {s : Str} {f k : Nat} (h : k < s.length) (hf : f ≤ k) : seg s f (k + 1) = seg s f k ++ [s.getD k 0] := by
  unfold seg
  rw [List.take_succ_eq_append_getElem h, List.drop_append_of_le_length (by rw [List.length_take]; omega), List.getD_eq_getElem?_getD, List.getElem?_eq_getElem h]; rfl
end Go.Proofs.YtjndellhebidoaaGreatDoor

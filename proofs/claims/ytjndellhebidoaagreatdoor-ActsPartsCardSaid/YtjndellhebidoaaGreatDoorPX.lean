/- The library's contracts of strconv.FormatInt at base 10, laid at this dump by the kit's tools. Conditions: its table. Contracts: numbers told. Conditions: int64; the library's table. Contracts: names, events' names. Conditions: none. An executor for function bodies of the model over data, part PX: a slice moved to a number of its own; a nil slice in a lent block. Conditions: none. -/
import Derived.Shelf.LaysM
import Derived.Shelf.Strconv.Itoa4
import Derived.Test.YtjndellhebidoaaGreatDoorProg
import Derived.Test.YtjndellhebidoaaGreatDoorDa
import Derived.Lib.AppendIntMem
import Derived.Test.YtjndellhebidoaaGreatDoorNa
namespace Go.Proofs
open Go.Shelf
def Tryz.laysM173_ren : Go.Shelf.Ren := ⟨fun | 173 => 126 | 246 => 148 | 283 => 157 | 284 => 158 | 285 => 159 | 286 => 160 | 129 => 163 | 317 => 162 | 318 => 164 | 319 => 165 | 320 => 166 | 337 => 169 | 338 => 170 | n => n, fun | 2 => 2 | 3 => 3 | 9 => 9 | 4 => 4 | 171 => 196 | 0 => 0 | 53 => 178 | 37 => 105 | 5 => 5 | 173 => 199 | 212 => 203 | 51 => 191 | 20 => 20 | 213 => 204 | 46 => 173 | 232 => 219 | 233 => 220 | n => n, fun | 17 => 3 | 18 => 4 | 19 => 5 | n => n⟩
theorem Tryz.laysM173 : Go.Proofs.LaysM.n173 Tryz.prog Tryz.laysM173_ren := {
  mixed := by kernel_rfl
  f129 := Tryz.func163.trans (congrArg some (by kernel_rfl))
  f173 := Tryz.func126.trans (congrArg some (by kernel_rfl))
  f246 := Tryz.func148.trans (congrArg some (by kernel_rfl))
  f283 := Tryz.func157.trans (congrArg some (by kernel_rfl))
  f284 := Tryz.func158.trans (congrArg some (by kernel_rfl))
  f285 := Tryz.func159.trans (congrArg some (by kernel_rfl))
  f286 := Tryz.func160.trans (congrArg some (by kernel_rfl))
  f317 := Tryz.func162.trans (congrArg some (by kernel_rfl))
  f318 := Tryz.func164.trans (congrArg some (by kernel_rfl))
  f319 := Tryz.func165.trans (congrArg some (by kernel_rfl))
  f320 := Tryz.func166.trans (congrArg some (by kernel_rfl))
  f337 := Tryz.func169.trans (congrArg some (by kernel_rfl))
  f338 := Tryz.func170.trans (congrArg some (by kernel_rfl))
  t0 := Tryz.underlying0
  a0 := Tryz.isAgg0
  z0 := Tryz.sizeOf0
  v0 := Tryz.zeroValue0
  t2 := Tryz.underlying2
  a2 := Tryz.isAgg2
  z2 := Tryz.sizeOf2
  v2 := Tryz.zeroValue2
  t3 := Tryz.underlying3
  a3 := Tryz.isAgg3
  z3 := Tryz.sizeOf3
  v3 := Tryz.zeroValue3
  t4 := Tryz.underlying4
  a4 := Tryz.isAgg4
  z4 := Tryz.sizeOf4
  v4 := Tryz.zeroValue4
  t5 := Tryz.underlying5
  a5 := Tryz.isAgg5
  z5 := Tryz.sizeOf5
  v5 := Tryz.zeroValue5
  t9 := Tryz.underlying9
  a9 := Tryz.isAgg9
  z9 := Tryz.sizeOf9
  v9 := Tryz.zeroValue9
  t20 := Tryz.underlying20
  a20 := Tryz.isAgg20
  z20 := Tryz.sizeOf20
  v20 := Tryz.zeroValue20
  t37 := Tryz.underlying105
  a37 := Tryz.isAgg105
  z37 := Tryz.sizeOf105
  v37 := Tryz.zeroValue105
  t46 := Tryz.underlying173
  a46 := Tryz.isAgg173
  z46 := Tryz.sizeOf173
  v46 := Tryz.zeroValue173
  t51 := Tryz.underlying191
  a51 := Tryz.isAgg191
  z51 := Tryz.sizeOf191
  v51 := Tryz.zeroValue191
  t53 := Tryz.underlying178
  a53 := Tryz.isAgg178
  z53 := Tryz.sizeOf178
  v53 := Tryz.zeroValue178
  t171 := Tryz.underlying196
  a171 := Tryz.isAgg196
  z171 := Tryz.sizeOf196
  v171 := Tryz.zeroValue196
  t173 := Tryz.underlying199
  a173 := Tryz.isAgg199
  z173 := Tryz.sizeOf199
  v173 := Tryz.zeroValue199
  t212 := Tryz.underlying203
  a212 := Tryz.isAgg203
  z212 := Tryz.sizeOf203
  v212 := Tryz.zeroValue203
  t213 := Tryz.underlying204
  a213 := Tryz.isAgg204
  z213 := Tryz.sizeOf204
  t232 := Tryz.underlying219
  a232 := Tryz.isAgg219
  z232 := Tryz.sizeOf219
  v232 := Tryz.zeroValue219
  t233 := Tryz.underlying220
  a233 := Tryz.isAgg220
  z233 := Tryz.sizeOf220
  v233 := Tryz.zeroValue220
  g17 := by kernel_rfl
  g18 := by kernel_rfl
  g19 := by kernel_rfl
  i0 := by kernel_rfl
  i2 := by kernel_rfl
  i3 := by kernel_rfl
  i4 := by kernel_rfl
  i5 := by kernel_rfl
  i9 := by kernel_rfl
  i20 := by kernel_rfl
  i37 := by kernel_rfl
  i46 := by kernel_rfl
  i51 := by kernel_rfl
  i53 := by kernel_rfl
  i171 := by kernel_rfl
  i173 := by kernel_rfl
  i212 := by kernel_rfl
  i232 := by kernel_rfl
  i233 := by kernel_rfl
  m17 := by kernel_rfl
  m18 := by kernel_rfl
  m19 := by kernel_rfl }
open Go.RowKit Go.Sort Go.Lib in
theorem Tryz.strconv_FormatInt_10 (n : Int) (h0 : -9223372036854775808 ≤ n) (h1 : n ≤ 9223372036854775807) (w : World) (htab : Lib.TabIs Tryz.prog w "internal/strconv.uint64pow10" .u64 Lib.pow10Tab) :
    Calls Tryz.prog 126 #[.int .i64 n, .int .i64 10] w fun e w' => e = .returned (.string ⟨(Lib.itoa n).toArray⟩) ∧ ∃ k os, w' = grow (w.drewN k) os := Any.strconv_FormatInt_10 Tryz.laysM173 n h0 h1 w htab
end Go.Proofs
namespace Go.Proofs.YtjndellhebidoaaGreatDoor
open Go Go.Ev Go.RowKit
set_option maxRecDepth 100000
theorem fr_below {w w' : World} (h : Below w.heap.size w w') : Fr (fun _ => False) w w' := ⟨h.os, h.tape, h.output, h.size, fun k hk _ => h.block k hk⟩
theorem formatInt_spec (n : Int) (h0 : -9223372036854775808 ≤ n) (h1 : n ≤ 9223372036854775807) : Does Tryz.prog 126 [.i n, .i 10] [] (.x (.s (Lib.itoa n))) [] := by
  intro w V vs hw hT hv
  cases hv with
  | cons a1 hv => cases hv with
    | cons a2 hv =>
      cases hv
      have a1' : PR V.H (.int .i64 n) _ := a1
      have a2' : PR V.H (.int .i64 10) _ := a2
      cases a1'
      cases a2'
      have ht : Lib.TabIs Tryz.prog w "internal/strconv.uint64pow10" .u64 Lib.pow10Tab := (hT.1 (by kernel_rfl)).world hw.imm
      refine (Tryz.strconv_FormatInt_10 n h0 h1 w ht).mono fun e w' ⟨he, k, os, hw'⟩ => ?_
      subst he; subst hw'
      exact ⟨_, V, rfl, .str (Lib.itoa n), hw.kept (fr_below (Lib.below_grow w.heap.size w (Nat.le_refl _) k os))⟩
def eFi : Nat × (List SX → List Chunk → Option (Option Prop × SV × List Chunk)) := (126, fun
  | [.c (.pd (.int .i64 n)), .c (.pd (.int .i64 10))], [] => some (some (-9223372036854775808 ≤ n ∧ n ≤ 9223372036854775807), .x (.c (.pd (.str (Lib.itoa n)))), [])
  | _, _ => none)
theorem eFi_ok (vs : List SX) (ck : List Chunk) (p : Option Prop) (ret : SV) (ck' : List Chunk) (h : eFi.2 vs ck = some (p, ret, ck')) (hp : Holds p) : Does Tryz.prog eFi.1 vs ck ret ck' := by
  unfold eFi at h
  simp only at h
  split at h
  · rename_i n
    simp only [Option.some.injEq, Prod.mk.injEq] at h
    obtain ⟨rfl, rfl, rfl⟩ := h
    exact formatInt_spec n hp.1 hp.2
  · simp at h
def cfgDg : Cfg := ⟨tys0, [eFi]⟩
theorem cfgDg_ok : TabOk Tryz.prog cfgDg.tab := (TabOk.cons eFi_ok TabOk.nil)
theorem digits_spec (n : Int) (h0 : -9223372036854775808 ≤ n) (h1 : n ≤ 9223372036854775807) : Does Tryz.prog 101 [.i n] [] (.x (.s (Lib.itoa n))) [] := by
  refine Does.go (cfg := cfgDg) cfgDg_ok Tryz.func101 (by kernel_rfl) (by kernel_rfl) (t := (.need ((-9223372036854775808 : Int) ≤ n ∧ n ≤ (9223372036854775807 : Int)) (.ret (.p (.str (Lib.itoa n))) []))) (by kernel_rfl) fun Γ => ?_
  exact ⟨⟨h0, h1⟩, rfl, rfl⟩
def eDg : Nat × (List SX → List Chunk → Option (Option Prop × SV × List Chunk)) := (101, fun
  | [.c (.pd (.int .i64 n))], [] => some (some (-9223372036854775808 ≤ n ∧ n ≤ 9223372036854775807), .x (.c (.pd (.str (Lib.itoa n)))), [])
  | _, _ => none)
theorem eDg_ok (vs : List SX) (ck : List Chunk) (p : Option Prop) (ret : SV) (ck' : List Chunk) (h : eDg.2 vs ck = some (p, ret, ck')) (hp : Holds p) : Does Tryz.prog eDg.1 vs ck ret ck' := by
  unfold eDg at h
  simp only at h
  split at h
  · rename_i n
    simp only [Option.some.injEq, Prod.mk.injEq] at h
    obtain ⟨rfl, rfl, rfl⟩ := h
    exact digits_spec n hp.1 hp.2
  · simp at h
end Go.Proofs.YtjndellhebidoaaGreatDoor
namespace Go.Proofs.YtjndellhebidoaaGreatDoor
open Go Go.Ev
set_option maxRecDepth 100000
def cfgEv1 : Cfg := ⟨tys0, [eCut, eName]⟩
theorem cfgEv1_ok : TabOk Tryz.prog cfgEv1.tab := (TabOk.cons eCut_ok (TabOk.cons eName_ok TabOk.nil))
theorem event_spec (s : Str) : Does Tryz.prog 42 [.s s] [] (.x (.b (eventM s))) [] := by
  refine Does.go (cfg := cfgEv1) cfgEv1_ok Tryz.func42 (by kernel_rfl) (by kernel_rfl) (t := (.ret (.p (.bool (nameM (cutP s [(100 : UInt8), 111, 110, 101, 46])))) [])) (by kernel_rfl) fun Γ => ?_
  exact ⟨rfl, rfl⟩
def eEvent : Nat × (List SX → List Chunk → Option (Option Prop × SV × List Chunk)) := (42, fun
  | [.c (.pd (.str s))], [] => some (none, .x (.c (.pd (.bool (eventM s)))), [])
  | _, _ => none)
theorem eEvent_ok (vs : List SX) (ck : List Chunk) (p : Option Prop) (ret : SV) (ck' : List Chunk) (h : eEvent.2 vs ck = some (p, ret, ck')) (hp : Holds p) : Does Tryz.prog eEvent.1 vs ck ret ck' := by
  unfold eEvent at h
  simp only at h
  split at h
  · rename_i s
    simp only [Option.some.injEq, Prod.mk.injEq] at h
    obtain ⟨rfl, rfl, rfl⟩ := h
    exact event_spec s
  · simp at h
theorem cutP_yes (s : Str) : cutP ([100, 111, 110, 101, 46] ++ s) [100, 111, 110, 101, 46] = s := by
  have h : hasP ([100, 111, 110, 101, 46] ++ s) [100, 111, 110, 101, 46] = true := by
    simp [hasP, strLen]; omega
  rw [cutP, h]; rfl
theorem name_dot (s : Str) : nameM ([100, 111, 110, 101, 46] ++ s) = false := by
  have : ([100, 111, 110, 101, 46] ++ s : Str).any badB = true := by
    rw [List.any_append]
    have : ([100, 111, 110, 101, 46] : Str).any badB = true := by decide
    rw [this]; rfl
  rw [nameM, this]; simp
theorem hasP_split {s p : Str} (h : hasP s p = true) : ∃ r, s = p ++ r := by
  simp only [hasP, Bool.and_eq_true, beq_iff_eq, decide_eq_true_eq] at h
  refine ⟨s.drop (strLen p).toNat, ?_⟩
  have := List.take_append_drop (strLen p).toNat s
  rw [h.2] at this; exact this.symm
theorem event_yes (s : Str) : eventM ([100, 111, 110, 101, 46] ++ s) = nameM s := by rw [eventM, cutP_yes]
theorem event_no {s : Str} (h : hasP s [100, 111, 110, 101, 46] = false) : eventM s = nameM s := by simp [eventM, cutP, h]
def cfgEv2 : Cfg := ⟨tys0, [eRnm]⟩
theorem cfgEv2_ok : TabOk Tryz.prog cfgEv2.tab := (TabOk.cons eRnm_ok TabOk.nil)
theorem ref_event_spec (s : Str) : Does Tryz.prog 72 [.s s] [] (.x (.b (eventM s))) [] := by
  refine Does.go (cfg := cfgEv2) cfgEv2_ok Tryz.func72 (by kernel_rfl) (by kernel_rfl) (t := (.need (nameM s = false ∧ decide (strLen s > (5 : Int)) = true → (0 : Int) ≤ (5 : Int) ∧ (5 : Int) ≤ (↑(List.length s) : Int)) (.need (nameM s = false ∧ (decide (strLen s > (5 : Int)) && Prod.snd (cutL s none (some (5 : Int))) == [(100 : UInt8), 111, 110, 101, 46]) = true → (0 : Int) ≤ (5 : Int) ∧ (5 : Int) ≤ (↑(List.length s) : Int)) (.ret (.p (.bool (nameM s || decide (strLen s > (5 : Int)) && Prod.snd (cutL s none (some (5 : Int))) == [(100 : UInt8), 111, 110, 101, 46] && nameM (Prod.snd (cutL s (some (5 : Int)) none))))) [])))) (by kernel_rfl) fun Γ => ?_
  have hL : strLen s = (s.length : Int) := rfl
  refine ⟨fun h => by have := of_decide_eq_true h.2; omega, fun h => by simp only [Bool.and_eq_true, decide_eq_true_eq] at h; omega, ?_, rfl⟩
  cases hp : hasP s [100, 111, 110, 101, 46]
  · rw [event_no hp]
    have h5 : (decide (strLen s > 5) && (cutL s none (some 5)).2 == [100, 111, 110, 101, 46]) = false := by
      cases hb : (decide (strLen s > 5) && (cutL s none (some 5)).2 == [100, 111, 110, 101, 46])
      · rfl
      · exfalso
        simp only [Bool.and_eq_true, decide_eq_true_eq] at hb
        have : hasP s [100, 111, 110, 101, 46] = true := by
          simp only [hasP, Bool.and_eq_true, decide_eq_true_eq]
          refine ⟨?_, hb.2⟩
          have h2 : strLen [100, 111, 110, 101, 46] = 5 := rfl
          omega
        rw [this] at hp; cases hp
    rw [h5, Bool.false_and, Bool.or_false]
  · obtain ⟨r, rfl⟩ := hasP_split hp
    rw [event_yes, name_dot, Bool.false_or]
    have hc : (cutL ([100, 111, 110, 101, 46] ++ r) (some 5) none).2 = r := rfl
    have hc2 : (cutL ([100, 111, 110, 101, 46] ++ r) none (some 5)).2 = [100, 111, 110, 101, 46] := rfl
    rw [hc, hc2]
    cases r with
    | nil => rfl
    | cons c r =>
      have : decide (strLen ([100, 111, 110, 101, 46] ++ c :: r) > 5) = true := decide_eq_true (by
        have : strLen ([100, 111, 110, 101, 46] ++ c :: r) = ((([100, 111, 110, 101, 46] ++ c :: r) : Str).length : Int) := rfl
        rw [this]; simp only [List.length_append, List.length_cons, List.length_nil]; omega)
      rw [this]; rfl
def eRefEvent : Nat × (List SX → List Chunk → Option (Option Prop × SV × List Chunk)) := (72, fun
  | [.c (.pd (.str s))], [] => some (none, .x (.c (.pd (.bool (eventM s)))), [])
  | _, _ => none)
theorem eRefEvent_ok (vs : List SX) (ck : List Chunk) (p : Option Prop) (ret : SV) (ck' : List Chunk) (h : eRefEvent.2 vs ck = some (p, ret, ck')) (hp : Holds p) : Does Tryz.prog eRefEvent.1 vs ck ret ck' := by
  unfold eRefEvent at h
  simp only at h
  split at h
  · rename_i s
    simp only [Option.some.injEq, Prod.mk.injEq] at h
    obtain ⟨rfl, rfl, rfl⟩ := h
    exact ref_event_spec s
  · simp at h
end Go.Proofs.YtjndellhebidoaaGreatDoor
namespace Go.Ev
open Go.RowKit

def moveN (i n : Nat) (j : Nat) : Nat := bif Nat.beq j i then n else j
def moveST (i : Nat) (st : ST) : ST := match st.ck[i]? with
  | some (.own e t l) => { st with fr := st.fr.map (fun p => (p.1, p.2.map (moveN i st.ck.length))), ck := (killCk (some i) st.ck ++ [Chunk.own e t l]).map (Chunk.map (moveN i st.ck.length)) }
  | _ => st
section
variable {P : Program} {f : FuncId} {root : Code} {Γ : Ctx} {Q : Out} {st : ST} {todo : List PI}
theorem WOk.renamed {ck : List Chunk} {V : Vn} {w : World} (r : WOk Γ ck V w) {ρ : Nat → Nat} (h : ∀ s, Turned ρ V V s) : WOk Γ (ck.map (Chunk.map ρ)) V w := by
  have hget : ∀ (i : Nat) (c : Chunk), (ck.map (Chunk.map ρ))[i]? = some c → ∃ c0, ck[i]? = some c0 ∧ c = c0.map ρ := by
    intro i c hc
    rw [List.getElem?_map, Option.map_eq_some_iff] at hc
    obtain ⟨c0, h1, h2⟩ := hc
    exact ⟨c0, h1, h2.symm⟩
  have hblk : ∀ (i : Nat) (c0 : Chunk), (c0.map ρ).blk V i = c0.blk V i := fun i c0 => by cases c0 <;> rfl
  refine { ext := r.ext, imm := r.imm, hle := r.hle, frz := r.frz, agr := r.agr, own := ?_, base := ?_, inj := ?_ }
  · intro i c hc
    obtain ⟨c0, h1, rfl⟩ := hget i c hc
    have h2 := r.own i c0 h1
    cases c0 with
    | dead => trivial
    | cells cs e =>
      obtain ⟨us, h3, h4⟩ := h2
      exact ⟨us, h3, scs_map (h _) h4⟩
    | own e t l => exact h2
  · intro i c b hc hb
    obtain ⟨c0, h1, rfl⟩ := hget i c hc
    rw [hblk] at hb
    exact r.base i c0 b h1 hb
  · intro i j c d b hc hd hb1 hb2
    obtain ⟨c0, h1, rfl⟩ := hget i c hc
    obtain ⟨d0, h2, rfl⟩ := hget j d hd
    rw [hblk] at hb1 hb2
    exact r.inj i j c0 d0 b h1 h2 hb1 hb2
theorem J.move (i : Nat) (hwf : st.wf = true) (hk : J P f root Γ Q todo (moveST i st)) : J P f root Γ Q todo st := by
  unfold moveST at hk
  split at hk
  · rename_i e t l hck
    intro hT V a w r
    obtain ⟨xs, h1, h2, h3⟩ := r.wok.own i _ hck
    have hi : i < st.ck.length := (List.getElem?_eq_some_iff.1 hck).1
    obtain ⟨V', hag, hH, g1, g2, r'⟩ := r.grow hwf (some i) (c := .own e t l) (v' := V.ov i) (s' := V.σ i) (w' := w) (row := (V.ov i).ownBlock) (fun b hb => ⟨i, _, rfl, hck, hb⟩) (World.grownBy.refl _ _) (fun V' hag hH f1 f2 => by
      refine ⟨⟨xs, by rw [f2]; exact h1, by rw [hH]; exact h2, fun b hb => ?_⟩, fun b hb => .inl ?_⟩
      · rw [f2] at hb; rw [f1]; exact h3 b hb
      · simpa only [Chunk.blk, f2] using hb)
    have hT2 : ∀ s, Turned (moveN i st.ck.length) V' V' s := fun s => ⟨HLe.refl _, fun j _ => by
      unfold moveN
      cases hb : Nat.beq j i
      · exact ⟨rfl, rfl⟩
      · have := Nat.eq_of_beq_eq_true hb
        subst this
        have hs := hag.same j hi
        simp only [cond_true]
        exact ⟨g1.trans hs.1.symm, g2.trans hs.2.symm⟩⟩
    refine hk hT V' a w { size := r'.size, defers := r'.defers, slots := ?_, wok := r'.wok.renamed hT2, few := ?_ }
    · intro s sv hm
      obtain ⟨⟨s', sv'⟩, h5, h6⟩ := List.mem_map.1 hm
      simp only [Prod.mk.injEq] at h6
      obtain ⟨rfl, rfl⟩ := h6
      exact (r'.slots _ _ h5).map (hT2 _)
    · have := r'.few
      simpa using this
  · exact hk
theorem WOk.seen {Γ' : Ctx} {ck : List Chunk} {V : Vn} {w : World} (r : WOk Γ ck V w) (h0 : Γ'.w0 = Γ.w0) (hM : ∀ b, Γ.M b → Γ'.M b) (hH : Γ'.H0 = Γ.H0) (hm : Γ'.m ≤ Γ.m) (hs : ∀ i, i < Γ'.m → Γ.σ0 i = Γ'.σ0 i ∧ Γ.ov0 i = Γ'.ov0 i) : WOk Γ' ck V w := by
  refine { ext := ?_, imm := r.imm, hle := by rw [hH]; exact r.hle, frz := ?_, agr := ?_, own := r.own, base := ?_, inj := r.inj }
  · rw [h0]
    exact ⟨r.ext.os, r.ext.tape, r.ext.output, r.ext.size, fun k hk hn => r.ext.block k hk fun hMk => hn (hM k hMk)⟩
  · intro k hk
    rw [hH, h0]
    rcases r.frz k hk with h | h | h
    · exact .inl h
    · exact .inr (.inl h)
    · exact .inr (.inr (hM k h))
  · intro i hi
    have h1 := r.agr i (Nat.lt_of_lt_of_le hi hm)
    have h2 := hs i hi
    exact ⟨h1.1.trans h2.1, h1.2.trans h2.2⟩
  · intro i c b hc hb
    obtain ⟨h1, h2⟩ := r.base i c b hc hb
    rw [h0]
    exact ⟨h1.imp id (hM b), h2⟩
theorem Does.nilCell {args : List SX} {cs : List SC} {e E : TypeId} {k : Nat} {t : ETy} {ret : SV} {ck' : List Chunk} (hk : cs[k]? = some (.pd (.v (.slice none 0 0)))) (hcs : cs.all (SC.lt 1) = true) (ha : args.all (SX.lt 1) = true)
    (h : Does P f args [.cells (cs.set k (.own 1)) e, .own E t []] ret ck') : Does P f args [.cells cs e] ret ck' := by
  intro w V vs hw hT hv
  let V2 : Vn := ⟨V.H, V.σ, fun j => if j = 1 then .slice none 0 0 else V.ov j⟩
  have hag : Agree 1 V V2 := ⟨HLe.refl _, fun i hi => ⟨rfl, if_neg (by omega)⟩⟩
  have h0 := hw.own 0 _ rfl
  obtain ⟨us, q1, q2⟩ := h0
  have hown : ∀ (i : Nat) (c : Chunk), [Chunk.cells (cs.set k (.own 1)) e, .own E t []][i]? = some c → c.holds V2 w i := by
    intro i c hc
    match i, hc with
    | 0, hc =>
      simp only [List.getElem?_cons_zero, Option.some.injEq] at hc
      subst hc
      refine ⟨us, q1, ?_⟩
      have h5 := scs_agree hag hcs q2
      obtain ⟨u, h6, h7⟩ := h5.get hk
      have hu : u = .slice none 0 0 := by
        have h8 : PR V2.H (.v (.slice none 0 0)) u := h7
        cases h8; rfl
      have h9 := h5.set (a := .own 1) (b := u) (show u = V2.ov 1 from hu) k
      have h10 : us.set k u = us := by
        apply List.ext_getElem?
        intro j
        rw [List.getElem?_set]
        split
        · rename_i hj; subst hj
          split
          · exact h6.symm
          · rename_i hlt; rw [List.getElem?_eq_none (by omega)]
        · rfl
      rw [h10] at h9
      exact h9
    | 1, hc =>
      simp only [List.getElem?_cons_succ, List.getElem?_cons_zero, Option.some.injEq] at hc
      subst hc
      have e1 : V2.ov 1 = .slice none 0 0 := rfl
      refine ⟨[], ?_, .nil, fun b hb => ?_⟩
      · rw [e1]; exact World.ownsRow_nil w 0 E t.size
      · rw [e1] at hb; simp [Value.ownBlock] at hb
    | i + 2, hc => simp at hc
  have hb1 : ∀ (i : Nat) (c : Chunk) (b : Nat), [Chunk.cells (cs.set k (.own 1)) e, .own E t []][i]? = some c → c.blk V2 i = some b → i = 0 ∧ b = V.σ 0 := by
    intro i c b hc hb
    match i, hc with
    | 0, hc =>
      simp only [List.getElem?_cons_zero, Option.some.injEq] at hc
      subst hc
      simp only [Chunk.blk, Option.some.injEq] at hb
      exact ⟨rfl, hb.symm⟩
    | 1, hc =>
      simp only [List.getElem?_cons_succ, List.getElem?_cons_zero, Option.some.injEq] at hc
      subst hc
      have e1 : V2.ov 1 = .slice none 0 0 := rfl
      simp only [Chunk.blk] at hb
      rw [e1] at hb
      simp [Value.ownBlock] at hb
    | i + 2, hc => simp at hc
  have hM0 : (entry [.cells cs e] V w).M (V.σ 0) := ⟨0, _, rfl, rfl⟩
  have hM2 : (entry [.cells (cs.set k (.own 1)) e, .own E t []] V2 w).M (V.σ 0) := ⟨0, _, rfl, rfl⟩
  have hbase := hw.base 0 _ (V.σ 0) rfl rfl
  have hw2 : WOk (entry [.cells (cs.set k (.own 1)) e, .own E t []] V2 w) [.cells (cs.set k (.own 1)) e, .own E t []] V2 w := by
    refine { ext := Fr.refl _ _, imm := hw.imm, hle := HLe.refl _, frz := fun k hk => .inl hk, agr := fun i _ => ⟨rfl, rfl⟩, own := hown, base := ?_, inj := ?_ }
    · intro i c b hc hb
      obtain ⟨rfl, rfl⟩ := hb1 i c b hc hb
      exact ⟨.inr hM2, hbase.2⟩
    · intro i j c d b hc hd hbc hbd
      obtain ⟨rfl, _⟩ := hb1 i c b hc hbc
      obtain ⟨rfl, _⟩ := hb1 j d b hd hbd
      rfl
  refine (h w V2 vs hw2 hT (hv.mono fun a b ha' hab => SX.R_agree hag (List.all_eq_true.1 ha a ha') hab)).mono fun e' w' hq => ?_
  obtain ⟨v, V', rfl, h1, h2⟩ := hq
  refine ⟨v, V', rfl, h1, h2.seen rfl ?_ rfl (by simp [entry]) ?_⟩
  · rintro b ⟨i, c, hc, hb⟩
    obtain ⟨rfl, rfl⟩ := hb1 i c b hc hb
    exact hM0
  · intro i hi
    have hi' : i = 0 := by have : i < 1 := hi; omega
    subst hi'
    exact ⟨rfl, rfl⟩
theorem WOk.moved {cs : List SC} {e E : TypeId} {t : ETy} {l : List t.den} {V : Vn} {w : World} (r : WOk Γ [.cells cs e, .own E t l] V w) (hm : Γ.m ≤ 2) (hcs : (cs.flatMap SC.refs).all (fun i => Nat.blt i 2) = true) :
    ∃ V' : Vn, HLe V.H V'.H ∧ WOk Γ [.cells (cs.map (SC.map (moveN 1 2))) e, .dead, .own E t l] V' w := by
  let V2 : Vn := ⟨V.H, fun i => if i = 2 then V.σ 1 else V.σ i, fun i => if i = 2 then V.ov 1 else V.ov i⟩
  have hT : Turned (moveN 1 2) V V2 (cs.flatMap SC.refs) := ⟨HLe.refl _, fun j hj => by
    have hj2 : j < 2 := by have := List.all_eq_true.1 hcs j hj; simpa using this
    unfold moveN
    cases hb : Nat.beq j 1
    · simp only [cond_false, V2]
      exact ⟨if_neg (by omega), if_neg (by omega)⟩
    · have := Nat.eq_of_beq_eq_true hb
      subst this
      exact ⟨rfl, rfl⟩⟩
  have e0 : V2.σ 0 = V.σ 0 := rfl
  have e2 : V2.ov 2 = V.ov 1 := rfl
  have e3 : V2.σ 2 = V.σ 1 := rfl
  have hget : ∀ (i : Nat) (c : Chunk) (b : Nat), [Chunk.cells (cs.map (SC.map (moveN 1 2))) e, .dead, .own E t l][i]? = some c → c.blk V2 i = some b → ∃ (j : Nat) (c0 : Chunk), [Chunk.cells cs e, .own E t l][j]? = some c0 ∧ c0.blk V j = some b ∧ (i = 0 ∧ j = 0 ∨ i = 2 ∧ j = 1) := by
    intro i c b hc hb
    match i, hc with
    | 0, hc =>
      simp only [List.getElem?_cons_zero, Option.some.injEq] at hc
      subst hc
      exact ⟨0, _, rfl, hb, .inl ⟨rfl, rfl⟩⟩
    | 1, hc =>
      simp only [List.getElem?_cons_succ, List.getElem?_cons_zero, Option.some.injEq] at hc
      subst hc
      cases hb
    | 2, hc =>
      simp only [List.getElem?_cons_succ, List.getElem?_cons_zero, Option.some.injEq] at hc
      subst hc
      exact ⟨1, _, rfl, hb, .inr ⟨rfl, rfl⟩⟩
    | i + 3, hc => simp at hc
  refine ⟨V2, HLe.refl _, { ext := r.ext, imm := r.imm, hle := r.hle, frz := r.frz, agr := ?_, own := ?_, base := ?_, inj := ?_ }⟩
  · intro i hi
    have h1 := r.agr i hi
    have hne : i ≠ 2 := by omega
    exact ⟨(if_neg hne).trans h1.1, (if_neg hne).trans h1.2⟩
  · intro i c hc
    match i, hc with
    | 0, hc =>
      simp only [List.getElem?_cons_zero, Option.some.injEq] at hc
      subst hc
      obtain ⟨us, h1, h2⟩ := r.own 0 _ rfl
      exact ⟨us, by rw [e0]; exact h1, scs_map hT h2⟩
    | 1, hc =>
      simp only [List.getElem?_cons_succ, List.getElem?_cons_zero, Option.some.injEq] at hc
      subst hc; trivial
    | 2, hc =>
      simp only [List.getElem?_cons_succ, List.getElem?_cons_zero, Option.some.injEq] at hc
      subst hc
      obtain ⟨xs, h1, h2, h3⟩ := r.own 1 _ rfl
      exact ⟨xs, by rw [e2]; exact h1, h2, fun b hb => by rw [e2] at hb; rw [e3]; exact h3 b hb⟩
    | i + 3, hc => simp at hc
  · intro i c b hc hb
    obtain ⟨j, c0, h1, h2, _⟩ := hget i c b hc hb
    exact r.base j c0 b h1 h2
  · intro i j c d b hc hd hb hb2
    obtain ⟨i', c0, h1, h2, h3⟩ := hget i c b hc hb
    obtain ⟨j', d0, g1, g2, g3⟩ := hget j d b hd hb2
    have := r.inj i' j' c0 d0 b h1 g1 h2 g2
    rcases h3 with ⟨rfl, rfl⟩ | ⟨rfl, rfl⟩ <;> rcases g3 with ⟨rfl, rfl⟩ | ⟨rfl, rfl⟩ <;> omega
def Kept (ret : SV) (cs : List SC) (e E : TypeId) (t : ETy) (l : List t.den) : Out := fun v ck => v = ret ∧ (ck = [.cells cs e, .own E t l] ∨ ck = [.cells (cs.map (SC.map (moveN 1 2))) e, .dead, .own E t l])
theorem Does.kept {fn : Func} {args : List SX} {ck : List Chunk} {cs : List SC} {e E : TypeId} {t : ETy} {l : List t.den} {ret : SV} (hf : P.funcs[f]? = some fn) (hb : fn.body.isSome = true) (hn : Nat.ble args.length fn.ntmps = true) (hl : ck.length = 2)
    (hr : ret = .tup [] ∨ ∃ p, ret = .x (.c (.pd p))) (hcs : (cs.flatMap SC.refs).all (fun i => Nat.blt i 2) = true)
    (h : ∀ Γ, J P f (bodyOf fn) Γ (Kept ret cs e E t l) [.code []] (initST fn.ntmps args ck)) : Does P f args ck ret [.cells (cs.map (SC.map (moveN 1 2))) e, .dead, .own E t l] := by
  intro w V vs hw hT hv
  refine (calls_of_J hf (body_some hb) hn (Γ := entry ck V w) rfl (h _) hw hT hv).mono fun en w' hq => ?_
  obtain ⟨v, V', r, c, rfl, ⟨rfl, hc⟩, h1, h2⟩ := hq
  rcases hc with rfl | rfl
  · have hH : ∀ V2 : Vn, HLe V'.H V2.H → r.R V2 v := by
      intro V2 hle
      rcases hr with rfl | ⟨p, rfl⟩
      · obtain ⟨us, e1, h5⟩ := h1
        cases h5
        exact ⟨[], e1, .nil⟩
      · exact PR.mono hle h1
    obtain ⟨V2, hle, h3⟩ := h2.moved (by show ck.length ≤ 2; omega) hcs
    exact ⟨v, V2, rfl, hH V2 hle, h3⟩
  · exact ⟨v, V', rfl, h1, h2⟩
end
end Go.Ev

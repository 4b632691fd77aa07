/- The law ActsFits. Conditions: sizes; numbers are such. From a call's contract to a law's row: arguments opened, the row shut. Conditions: each theorem's own. From a row that lists the library's tables to what the walks ask; a world for the witness. Conditions: none. Lists of cells among the laws' arguments. Conditions: none. -/
import Derived.Test.YtjndellhebidoaaGreatDoorVa
import Derived.Test.YtjndellhebidoaaGreatDoorDa
import Derived.ProofKit
import Derived.Deep.Slices
import Derived.SizedLaws
import Derived.Test.YtjndellhebidoaaGreatDoorCards
import Derived.Test.YtjndellhebidoaaGreatDoorTie
import Derived.Deep.DeepHandedRow
import Derived.Lib.LaidTab
import Derived.LaidSub
import Derived.Stop.LaidErr
import Derived.MakeChecks
import Derived.Shelf.Vars
namespace Go.Proofs.YtjndellhebidoaaGreatDoor
open Go Go.Ev
set_option maxRecDepth 100000
theorem do_borrow (l : List Deed) (vs : List Var) (vals : List Val) (hl : l.length ≤ 1000000) (hr : room vals.length 24) (hv : ∀ v ∈ vals, i64 v.a = true) :
    Does Tryz.prog 14 [.l .deed l, .l .var vs, .c (.own 0)] [.own 49 .val vals] (.tup [.c (.own 1), .c (.own 2), .c (.own 3), .b (doM l vs vals).2.2.2]) [.own 49 .val vals, .own 49 .val (doM l vs vals).1, .own 9 .str (doM l vs vals).2.1, .own 9 .str (doM l vs vals).2.2.1] :=
  Does.borrow (pre := [.l .deed l, .l .var vs]) (post := []) (do_spec l vs vals hl hr hv) rfl rfl rfl rfl
def eDoB : Nat × (List SX → List Chunk → Option (Option Prop × SV × List Chunk)) := (14, fun
  | [.c (.pd (.lst .deed l)), .c (.pd (.lst .var vs)), .c (.own 0)], [.own 49 .val vals] => some (some (l.length ≤ 1000000 ∧ room vals.length 24 ∧ ∀ v ∈ vals, i64 v.a = true), .tup [.c (.own 1), .c (.own 2), .c (.own 3), .c (.pd (.bool (doM l vs vals).2.2.2))], [.own 49 .val vals, .own 49 .val (doM l vs vals).1, .own 9 .str (doM l vs vals).2.1, .own 9 .str (doM l vs vals).2.2.1])
  | _, _ => none)
theorem eDoB_ok (vs : List SX) (ck : List Chunk) (p : Option Prop) (ret : SV) (ck' : List Chunk) (h : eDoB.2 vs ck = some (p, ret, ck')) (hp : Holds p) : Does Tryz.prog eDoB.1 vs ck ret ck' := by
  unfold eDoB at h
  simp only at h
  split at h
  · rename_i l vs vals
    simp only [Option.some.injEq, Prod.mk.injEq] at h
    obtain ⟨rfl, rfl, rfl⟩ := h
    exact do_borrow l vs vals hp.1 hp.2.1 hp.2.2
  · simp at h
def cfgF : Cfg := ⟨tys0, [eWk6, eLong, eCpd, eDoB, eDo, eRfits, eSv]⟩
theorem cfgF_ok : TabOk Tryz.prog cfgF.tab := (TabOk.cons eWk6_ok (TabOk.cons eLong_ok (TabOk.cons eCpd_ok (TabOk.cons eDoB_ok (TabOk.cons eDo_ok (TabOk.cons eRfits_ok (TabOk.cons eSv_ok TabOk.nil)))))))

theorem get_set {cur : List Val} {i : Nat} (hi : i < cur.length) (j : Nat) (x : Val) : ETy.get .val (cur.set i x) j = if i = j then x else ETy.get .val cur j := by
  simp only [ETy.get, List.getD_eq_getElem?_getD, List.getElem?_set]
  split
  · rename_i h; subst h; simp [hi]
  · rfl
theorem doGo_fits (vs : List Var) : ∀ (l : List Deed) (cur : List Val) (rs ss : List Str), (∀ v ∈ cur, i64 v.a = true) → (doGo vs l cur rs ss).1.length = cur.length ∧ ∀ j, fitsM (ETy.get .var vs j) (ETy.get .val cur j) = true → fitsM (ETy.get .var vs j) (ETy.get .val (doGo vs l cur rs ss).1 j) = true
  | [], cur, rs, ss, _ => ⟨rfl, fun _ h => h⟩
  | d :: r, cur, rs, ss, hv => by
    rw [doGo]
    cases d.kind == 2
    · cases d.kind == 3
      · cases d.kind == 1
        · exact ⟨rfl, fun _ h => h⟩
        · cases hs : setOk vs cur d
          · exact ⟨rfl, fun _ h => h⟩
          · obtain ⟨g1, g2, g3, g4⟩ := setOk_parts hv hs
            simp only [cond_false, cond_true]
            obtain ⟨i1, i2⟩ := doGo_fits vs r (cur.set (ixV vs d.name).toNat (evalM d.expr vs cur []).1) rs ss (set_i64 hv g4)
            refine ⟨by rw [i1, List.length_set], fun j hj => i2 j ?_⟩
            rw [get_set (by omega)]
            split
            · rename_i h; subst h
              simp only [setOk, Bool.and_eq_true] at hs
              exact hs.2
            · exact hj
      · exact doGo_fits vs r cur rs (ss ++ [d.name]) hv
    · exact doGo_fits vs r cur (rs ++ [d.name]) ss hv
theorem fits_loop (l : List Deed) (vs : List Var) (vals : List Val) (Γ : Ctx) (hr : room l.length 48) (hx : ∀ a ∈ l, room a.expr.length 32) (hl : l.length ≤ 1000000) (hvl : room vals.length 24) (hv : ∀ v ∈ vals, i64 v.a = true) (hlen : vs.length = vals.length) (r : List Val) (hq : r = (doM l vs vals).1) :
    ∀ (n k : Nat) (m : List Val), vals.length - k ≤ n → k ≤ vals.length → m.length = vals.length →
    J Tryz.prog 6 (bodyOf Tryz.f6) Γ (Eq2 (.x (.b true)) []) [.code [1, 1, 1, 1, 1, 1, 0, 1, 0, 0], .inLoop [1, 1, 1, 1, 1, 1, 0, 1, 0, 0], .inBlock 0, .code [1, 1, 1, 1, 1, 1, 1]] ({ n := 104, fr := [(6, .p (.lst .val (r))), (0, .p (.lst .deed l)), (3, .x (.c (.loc 0 0))), (4, .p (.bool false)), (5, .x (.c (.own 1))), (56, .i ((r.length : Int))), (57, .i (k))], ck := [.cells [.pd (.lst .var vs), .pd (.lst .val vals)] 34, .own 49 .val m] }) := by
  obtain ⟨d1, d2⟩ := doGo_fits vs l vals [] [] hv
  have hrl : r.length = vals.length := by rw [hq]; exact d1
  intro n
  induction n with
  | zero => ?_
  | succ n ih => ?_
  all_goals
    intro k m hn hk hm
    refine J.go (cfg := cfgF) cfgF_ok Tryz.func6 1000 (t := (.ite (decide ((↑k : Int) < (↑(List.length r) : Int))) (.need ((0 : Int) ≤ (↑k : Int) ∧ (↑k : Int) < (↑(List.length vs) : Int)) (.need ((0 : Int) ≤ (↑k : Int) ∧ (↑k : Int) < (↑(List.length vals) : Int)) (.need (Prod.snd (Prod.snd (Prod.snd (11, 71, true, onBy true (fitsM { name := Var.name (ETy.get .var vs k), kind := Var.kind (ETy.get .var vs k), lo := Var.lo (ETy.get .var vs k), hi := Var.hi (ETy.get .var vs k), init := { kind := Val.kind (Var.init (ETy.get .var vs k)), a := Val.a (Var.init (ETy.get .var vs k)), b := Val.b (Var.init (ETy.get .var vs k)) } } { kind := Val.kind (ETy.get .val vals k), a := Val.a (ETy.get .val vals k), b := Val.b (ETy.get .val vals k) }) none))) → (0 : Int) ≤ (↑k : Int) ∧ (↑k : Int) < (↑(List.length vs) : Int)) (.need (Prod.snd (Prod.snd (Prod.snd (11, 71, true, onBy true (fitsM { name := Var.name (ETy.get .var vs k), kind := Var.kind (ETy.get .var vs k), lo := Var.lo (ETy.get .var vs k), hi := Var.hi (ETy.get .var vs k), init := { kind := Val.kind (Var.init (ETy.get .var vs k)), a := Val.a (Var.init (ETy.get .var vs k)), b := Val.b (Var.init (ETy.get .var vs k)) } } { kind := Val.kind (ETy.get .val vals k), a := Val.a (ETy.get .val vals k), b := Val.b (ETy.get .val vals k) }) none))) → (0 : Int) ≤ (↑k : Int) ∧ (↑k : Int) < (↑(List.length r) : Int)) (.ite (fitsM { name := Var.name (ETy.get .var vs k), kind := Var.kind (ETy.get .var vs k), lo := Var.lo (ETy.get .var vs k), hi := Var.hi (ETy.get .var vs k), init := { kind := Val.kind (Var.init (ETy.get .var vs k)), a := Val.a (Var.init (ETy.get .var vs k)), b := Val.b (Var.init (ETy.get .var vs k)) } } { kind := Val.kind (ETy.get .val vals k), a := Val.a (ETy.get .val vals k), b := Val.b (ETy.get .val vals k) } && !fitsM { name := Var.name (ETy.get .var vs k), kind := Var.kind (ETy.get .var vs k), lo := Var.lo (ETy.get .var vs k), hi := Var.hi (ETy.get .var vs k), init := { kind := Val.kind (Var.init (ETy.get .var vs k)), a := Val.a (Var.init (ETy.get .var vs k)), b := Val.b (Var.init (ETy.get .var vs k)) } } { kind := Val.kind (ETy.get .val r k), a := Val.a (ETy.get .val r k), b := Val.b (ETy.get .val r k) }) (.ret (.p (.bool false)) []) (.need ((0 : Int) ≤ (↑k : Int) ∧ (↑k : Int) < (↑(List.length m) : Int)) (.need (k < List.length m) (.stop [.code [1, 1, 1, 1, 1, 1, 0, 1, 0, 0], .inLoop [1, 1, 1, 1, 1, 1, 0, 1, 0, 0], .inBlock 0, .code [1, 1, 1, 1, 1, 1, 1]] { n := 104, fr := [(6, .p (.lst .val r)), (0, .p (.lst .deed l)), (3, .x (.c (.loc 0 0))), (4, .p (.bool false)), (5, .x (.c (.own 1))), (56, .i (↑(List.length r) : Int)), (57, .i (IntKind.wrap .i64 ((↑k : Int) + (1 : Int))))], ck := [.cells [.pd (.lst .var vs), .pd (.lst .val vals)] 34, .own 49 .val (List.set m k { kind := (77 : Int), a := (0 : Int), b := (0 : Int) })] })))))))) (.need (room (List.length l) 48 ∧ ∀ (a : ETy.den .deed), a ∈ l → room (List.length (Deed.expr a)) 32) (.need (List.length l ≤ 1000000 ∧ room (List.length vals) 24 ∧ ∀ (v : ETy.den .val), v ∈ vals → i64 (Val.a v) = true) (.ret (.p (.bool (sameVals r (Prod.fst (doM l vs vals))))) []))))) (by kernel_rfl) ?_
    refine ⟨fun hlt => ?_, fun hge => ?_⟩
    · have hk' : k < vals.length := by have := of_decide_eq_true hlt; omega
      refine ⟨by omega, by omega, fun _ => by omega, fun _ => by omega, fun hb => ?_, fun _ => ⟨by omega, by omega, ?_⟩⟩
      · exfalso
        have hb1 : (fitsM (ETy.get .var vs k) (ETy.get .val vals k) && !fitsM (ETy.get .var vs k) (ETy.get .val r k)) = true := hb
        rw [Bool.and_eq_true] at hb1
        have h2 : fitsM (ETy.get .var vs k) (ETy.get .val r k) = true := by rw [hq]; exact d2 k hb1.1
        rw [h2] at hb1; exact Bool.noConfusion hb1.2
      · rw [wrapK (by unfold room maxLen at hvl; omega)]
        first
        | (exfalso; omega)
        | exact ih (k + 1) (List.set m k (⟨77, 0, 0⟩ : Val)) (by omega) (by omega) (by simp [hm])
    · refine ⟨⟨hr, hx⟩, ⟨hl, hvl, hv⟩, ?_⟩
      rw [hq, sameVals_self]; exact ⟨rfl, rfl⟩
theorem acts_fits_spec (l : List Deed) (vs : List Var) (vals : List Val) (hr : room l.length 48) (hx : ∀ a ∈ l, room a.expr.length 32) (hvl : room vals.length 24) (hv : ∀ v ∈ vals, i64 v.a = true) :
    Does Tryz.prog 6 [.l .deed l, .agg [.pd (.lst .var vs), .pd (.lst .val vals)]] [] (.x (.b true)) [] := by
  refine Does.go (cfg := cfgF) cfgF_ok Tryz.func6 (by kernel_rfl) (by kernel_rfl) (t := (.ite false (.ret (.p (.bool false)) []) (.ite (decide ((↑(List.length l) : Int) > (100 : Int)) || (↑(List.length vs) : Int) != (↑(List.length vals) : Int)) (.ret (.p (.bool true)) []) (.need (room (List.length ([] ++ vals)) 24) (.need (room (List.length l) 48 ∧ ∀ (a : ETy.den .deed), a ∈ l → room (List.length (Deed.expr a)) 32) (.need (List.length l ≤ 1000000 ∧ room (List.length ([] ++ vals)) 24 ∧ ∀ (v : ETy.den .val), v ∈ [] ++ vals → i64 (Val.a v) = true) (.ite (!sameVals ([] ++ vals) vals || (↑(List.length (Prod.fst (doM l vs ([] ++ vals)))) : Int) != (↑(List.length ([] ++ vals)) : Int)) (.ret (.p (.bool false)) []) (.stop [.code [1, 1, 1, 1, 1, 1, 0, 1, 0, 0], .inLoop [1, 1, 1, 1, 1, 1, 0, 1, 0, 0], .inBlock 0, .code [1, 1, 1, 1, 1, 1, 1]] { n := 104, fr := [(6, .p (.lst .val (Prod.fst (doM l vs ([] ++ vals))))), (0, .p (.lst .deed l)), (3, .x (.c (.loc 0 0))), (4, .p (.bool false)), (5, .x (.c (.own 1))), (56, .i (↑(List.length (Prod.fst (doM l vs ([] ++ vals)))) : Int)), (57, .i (0 : Int))], ck := [.cells [.pd (.lst .var vs), .pd (.lst .val vals)] 34, .own 49 .val ([] ++ vals)] })))))))) (by kernel_rfl) fun Γ => ?_
  refine ⟨fun x => Bool.noConfusion x, fun _ => ⟨fun _ => ⟨rfl, rfl⟩, fun h => ?_⟩⟩
  simp only [Bool.or_eq_false_iff, decide_eq_false_iff_not, bne_eq_false_iff_eq] at h
  have hl : l.length ≤ 1000000 := by omega
  have hlen : vs.length = vals.length := by omega
  obtain ⟨d1, _⟩ := doGo_fits vs l vals [] [] hv
  have d1' : (doM l vs vals).1.length = vals.length := d1
  refine ⟨hvl, ⟨hr, hx⟩, ⟨hl, hvl, hv⟩, fun hb => ?_, fun _ => ?_⟩
  · exfalso
    have hb1 : (!sameVals vals vals || ((doM l vs vals).1.length : Int) != (vals.length : Int)) = true := hb
    rw [sameVals_self, d1'] at hb1
    simp at hb1
  · exact fits_loop l vs vals Γ hr hx hl hvl hv hlen _ rfl vals.length 0 vals (by omega) (by omega) rfl
end Go.Proofs.YtjndellhebidoaaGreatDoor
namespace Go.Ev
open Go.RowKit Go.ChangeShapes Go.WideShapes

def HW (W : World) : Mem := fun k => W.heap[k]?
def VW (W : World) : Vn := ⟨HW W, fun _ => 0, fun _ => undef⟩
theorem wok_entry (W : World) : WOk (entry [] (VW W) W) [] (VW W) W where
  ext := Fr.refl _ _
  imm := fun _ _ h => h
  hle := HLe.refl _
  frz := fun _ h => .inl h
  agr := fun i hi => absurd hi (Nat.not_lt_zero _)
  own := fun i c h => by simp at h
  base := fun i c b h => by simp at h
  inj := fun i j c d b h => by simp at h
theorem Does.law {P : Program} {f : FuncId} {args : List SX} {b : Bool} (h : Does P f args [] (.x (.c (.pd (.bool b)))) []) {W : World} (hT : Tabs P (HW W)) {vs : List Value} (hvs : All2 (SX.R (VW W)) args vs) :
    Calls P f vs.toArray W (fun e W' => e = .returned (.bool b) ∧ Below W.heap.size W W') := by
  refine (h W (VW W) vs (wok_entry W) hT hvs).mono fun e W' hp => ?_
  obtain ⟨v, V', rfl, hr, hw⟩ := hp
  have hr' : PR V'.H (.bool b) v := hr
  cases hr'
  refine ⟨rfl, hw.ext.os, hw.ext.tape, hw.ext.output, hw.ext.size, fun k hk => hw.ext.block k hk ?_⟩
  rintro ⟨i, c, hc, _⟩
  simp [entry] at hc
section
variable {Hh : Type} {enc : TypeId × Value → Hh} {P : Program} {W : World} {base : Nat} {spare : Nat → Bool} {held : Bool}
theorem cell_at {a : Addr} (hs : a.spot = none) {b off : Nat} (hb : a.block = b) (ho : a.off = off) {i : Nat} {u : Value} (h : W.cell? (a.add i) = some u) : ∃ cells e fr, W.heap[b]? = some (.cells cells e fr) ∧ cells[off + i]? = some u := by
  obtain ⟨b', off', sp⟩ := a
  simp only at hs hb ho
  subst hs; subst hb; subst ho
  rw [addr_add] at h
  unfold World.cell? at h
  split at h
  · rename_i c e fr hb
    exact ⟨c, e, fr, hb, by simpa using h⟩
  · cases h
end
section
variable {Hh : Type} {enc : TypeId × Value → Hh} {P : Program} {W W' : World}
theorem trodAll_below (hl : laidOutB P = true) (hb : Below W.heap.size W W') : ∀ {ts : List TypeId} {vs : List Value} {ds : List (DataW Hh)} {p : List MemPlace}, (∀ t ∈ ts, P.readableRec t = true ∧ t < P.types.size) → (∀ x ∈ p, x.block < W.heap.size) →
    DataW.TrodAll enc P W 0 (fun _ => true) true ts vs ds p → DataW.TrodAll enc P W' 0 (fun b => decide (b < W.heap.size)) true ts vs ds p
  | [], _, _, _, _, _, h => by
    obtain ⟨rfl, rfl, rfl⟩ := trodAll_nil h
    rfl
  | t :: ts, _, _, _, hr, hp, h => by
    obtain ⟨v, vs, d, ds, a, b, rfl, rfl, rfl, h1, h2⟩ := trodAll_cons h
    exact ⟨a, b, Below.trod hl (hr t List.mem_cons_self).1 (hr t List.mem_cons_self).2 h1 hb (fun x hx => hp x (List.mem_append_left _ hx)),
      trodAll_below hl hb (fun u hu => hr u (List.mem_cons_of_mem _ hu)) (fun x hx => hp x (List.mem_append_right _ hx)) h2, rfl⟩
theorem law_post {f : Func} {s : ChangeSpec} {tb : TypeId} {args : Array Value} {ds gs : List (DataW Hh)} {before : List MemPlace} (hl : laidOutB P = true) (hrt : f.resultTypes.toList = [tb]) (hsz : f.resultTypes.size = 1) (htb : P.underlying tb = some .bool) (hvars : s.vars = [])
    (hfn : (s.fn Hh ds).results = [.lit (.bool true)] ∧ (s.fn Hh ds).args = ds ∧ (s.fn Hh ds).vars = []) (hpar : ∀ t ∈ f.params.toList, P.readableRec t = true ∧ t < P.types.size)
    (hW : DataW.Whole enc P f.params.toList s.vars false W args.toList ds gs before) (hb : Below W.heap.size W W') : s.post enc P f false true false false W args (.bool true) W' := by
  have hW' := hW
  obtain ⟨p, q, hA, hV, rfl, hfz, hnd⟩ := hW
  rw [hvars] at hV
  obtain ⟨rfl, rfl⟩ := trodVars_none hV
  rw [List.append_nil] at hW' hfz
  have hlt : ∀ x ∈ p, x.block < W.heap.size := fun x hx => by simpa using hW'.lt x hx
  refine ⟨ds, [], p, [], p, [], hW', ?_, ?_, ?_, ?_, fun h => Bool.noConfusion h⟩
  · rw [List.append_nil, hfn.1, hrt, hsz]
    exact trodAll_mk1 (shut_bool htb _)
  · rw [List.append_nil, hfn.2.1]
    exact trodAll_below hl hb hpar hlt hA
  · rw [List.append_nil, hfn.2.2, hvars]
    rfl
  · exact World.keptBut_mono (fun x hx => ⟨hx, .inr (.inl hx)⟩) (hb.frame _)
end
end Go.Ev
namespace Go.Proofs.YtjndellhebidoaaGreatDoor
open Go Go.Ev Go.RowKit Go.ChangeShapes Go.WideShapes Go.ChangeAt
set_option maxRecDepth 100000
theorem own : ownKnob Tryz.prog.godebug = none := by kernel_rfl
theorem laidOut : laidOutB Tryz.prog = true := by kernel_rfl
theorem mvar_of {P : Program} {W : World} {name : String} {cs : Array Value} (h : W.var? P name = some cs) : MVar P (HW W) name cs := by
  unfold World.var? at h
  cases hg : P.globalNamed name with
  | none => rw [hg] at h; simp at h
  | some g =>
    rw [hg] at h
    simp only [Option.bind_some] at h
    split at h
    · rename_i c e fr hb
      simp only [Option.some.injEq] at h
      subst h
      exact ⟨g, e, fr, hg, hb⟩
    · cases h
abbrev textRange : ByteArray := ⟨#[118, 97, 108, 117, 101, 32, 111, 117, 116, 32, 111, 102, 32, 114, 97, 110, 103, 101]⟩
abbrev textSyntax : ByteArray := ⟨#[105, 110, 118, 97, 108, 105, 100, 32, 115, 121, 110, 116, 97, 120]⟩
theorem errRow (u : TypeId) (h : Tryz.prog.typeName? 3 u = some "*errors.errorString") : u = 235 :=
  typeName_ptr_named (nm := "errors.errorString") (by rw [show ("*" ++ "errors.errorString" : String) = "*errors.errorString" by kernel_rfl]; kernel_rfl) (by kernel_rfl) (by decide) u (by rw [show ("*" ++ "errors.errorString" : String) = "*errors.errorString" by kernel_rfl]; exact h)
theorem merr_of {W : World} {n : String} {text : List UInt8} {l : List (String × DataW Unit)} (h : laidMetH Tryz.prog l W) (e : (l.filter fun x => x.1 == n) = [(n, .iface "*errors.errorString" (.ptr (.agg [.lit (.string text)])))]) (ht : (Tryz.prog.globals[(Tryz.prog.globalNamed n).getD 0]?).map (·.type) = some 110) (hg : (Tryz.prog.globalNamed n).isSome = true) : MErr Tryz.prog (HW W) n := fun _ => by
  have h1 := laidMetH.filter (fun x => x.1 == n) h
  rw [e, MakeChecks.laidMetH_plain _ _ _ (by rfl)] at h1
  obtain ⟨g, hg⟩ := Option.isSome_iff_exists.1 hg
  rw [hg] at ht
  obtain ⟨a0, s0, hv0, -, -, -⟩ := laid_sentinel h1 hg ht Tryz.underlying110 errRow Tryz.underlying235 Tryz.underlying237 rfl rfl Tryz.underlying9 (by kernel_rfl) (by kernel_rfl)
  exact ⟨_, _, mvar_of hv0⟩
theorem maxlen_of {W : World} (h : W.ShapedOpen Tryz.prog) : MInt Tryz.prog (HW W) "internal/bytealg.MaxLen" := fun _ => by
  obtain ⟨m, hm⟩ : ∃ m, W.cell? ⟨0, 0, none⟩ = some (.int .i64 m) := Go.Proofs.cell_of_shapedOpen_int (zero := #[.int .i64 0]) (t := 3) h (of_decide_eq_true (by kernel_rfl)) (by kernel_rfl) rfl (by kernel_rfl) (by kernel_rfl) Tryz.underlying3
  unfold World.cell? at hm
  split at hm
  · split at hm
    · cases hm
    · rename_i cs e fr hb _
      exact ⟨0, cs, e, fr, m, by kernel_rfl, hb, hm⟩
  · cases hm
theorem tabs7 {W : World} (h : laidMetH Tryz.prog Rows.actsParsesRow.laid W) (hs : W.ShapedOpen Tryz.prog) : Tabs Tryz.prog (HW W) := by
  refine ⟨fun _ => ?_, merr_of (text := textSyntax.data.toList) h (by kernel_rfl) (by kernel_rfl) (by kernel_rfl), merr_of (text := textRange.data.toList) h (by kernel_rfl) (by kernel_rfl) (by kernel_rfl), maxlen_of hs⟩
  have h1 := laidMetH.filter (fun x => x.1 == "internal/strconv.uint64pow10") h
  have e : (Rows.actsParsesRow.laid.filter fun x => x.1 == "internal/strconv.uint64pow10") = [("internal/strconv.uint64pow10", Lib.tabData .u64 Lib.pow10Tab)] := by kernel_rfl
  rw [e] at h1
  have ht : (Tryz.prog.globals[(Tryz.prog.globalNamed "internal/strconv.uint64pow10").getD 0]?).map (·.type) = some 203 := by kernel_rfl
  exact mvar_of (Lib.tabIs_of_head (rest := []) (g := (Tryz.prog.globalNamed "internal/strconv.uint64pow10").getD 0) (by kernel_rfl) ht Tryz.underlying203 Tryz.underlying178 (by kernel_rfl) (by kernel_rfl) h1)
noncomputable def litCell : DataW Unit → List Value
  | .lit (.int k z) => [Value.int k z]
  | .agg [.lit (.int k z), .lit (.int k' z')] => [Value.int k z, Value.int k' z']
  | _ => []
noncomputable def tabCells : DataW Unit → Array Value
  | .agg ds => (ds.flatMap litCell).toArray
  | _ => #[]
noncomputable def layCells (name : String) (cs : Array Value) (heap : Array Obj) : Array Obj := heap.modify ((Tryz.prog.globalNamed name).getD 0) fun
  | .cells _ t frozen => .cells cs t frozen
  | o => o
noncomputable def layTab (name : String) (d : DataW Unit) (heap : Array Obj) : Array Obj := layCells name (tabCells d) heap
noncomputable def low : Nat := (World.holding Tryz.prog default ⟨#[], #[], []⟩).heap.size
noncomputable def world2 (os : Os) : World := World.holding Tryz.prog os ⟨#[.cells #[.string textRange] 237, .cells #[.string textSyntax] 237], #[], []⟩
noncomputable def laidWorld (os : Os) : World :=
  { world2 os with heap := layCells "strconv.ErrRange" #[.iface 235 (.pointer (some ⟨low, 0, none⟩))] (layCells "strconv.ErrSyntax" #[.iface 235 (.pointer (some ⟨low + 1, 0, none⟩))] (layTab "unicode/utf8.first" Rows.laid_unicode_utf8_first (layTab "unicode/utf8.acceptRanges" Rows.laid_unicode_utf8_acceptRanges (layTab "internal/strconv.uint64pow10" Rows.laid_internal_strconv_uint64pow10 (layTab "math/bits.deBruijn64tab" Rows.laid_math_bits_deBruijn64tab (layTab "math/bits.deBruijn32tab" Rows.laid_math_bits_deBruijn32tab (world2 os).heap)))))) }
theorem one_string {Hh : Type} {enc : TypeId × Value → Hh} {W : World} {base : Nat} {spare : Nat → Bool} {held : Bool} {t : TypeId} (ht : Tryz.prog.underlying t = some .string) {fuel : Nat} {cs : List Value} {y : Option (DataW Hh × List MemPlace)} (h : DataW.trod enc Tryz.prog W base spare held fuel t cs = y) (hy : y.isSome = true) : ∃ s, cs = [.string (bs s)] := by
  obtain ⟨x, rfl⟩ := Option.isSome_iff_exists.1 hy
  obtain ⟨s, h1, _⟩ := DataW.trod_string ht h
  exact ⟨s.data.toList, by rw [h1, bs_eta]⟩
end Go.Proofs.YtjndellhebidoaaGreatDoor
namespace Go.Proofs.YtjndellhebidoaaGreatDoor
open Go Go.Ev Go.RowKit Go.ChangeShapes Go.WideShapes Go.ChangeAt
set_option maxRecDepth 100000
section
variable {Hh : Type} {enc : TypeId × Value → Hh} {W : World} {base : Nat} {spare : Nat → Bool} {held : Bool}
theorem one_int {t : TypeId} {k : IntKind} (ht : Tryz.prog.underlying t = some (.int k)) {fuel : Nat} {cs : List Value} {y : Option (DataW Hh × List MemPlace)} (h : DataW.trod enc Tryz.prog W base spare held fuel t cs = y) (hy : y.isSome = true) : ∃ n, cs = [.int k n] ∧ (Lit.int k n).wf = true := by
  obtain ⟨x, rfl⟩ := Option.isSome_iff_exists.1 hy
  obtain ⟨n, h1, _, h2⟩ := DataW.trod_int ht h
  exact ⟨n, h1, h2⟩
theorem cell_opened (n : Nat) (cs : List Value) (y : DataW Hh × List MemPlace) (h : DataW.trod enc Tryz.prog W base spare held n 88 cs = some y) : ∃ c : Cell, All2 (PR (HW W)) (ETy.cell.enc c) cs ∧ True := by
  obtain ⟨xs, m, _, rfl, hl, hlen, hf⟩ := DataW.trod_struct Tryz.underlying88 h
  have c38 : Tryz.prog.cellsOf 88 = 3 := by kernel_rfl
  have c1 : Tryz.prog.cellsOf 3 = 1 := by kernel_rfl
  have c2 : Tryz.prog.cellsOf 2 = 1 := by kernel_rfl
  have c9 : Tryz.prog.cellsOf 9 = 1 := by kernel_rfl
  have l3 : xs.length = 3 := hlen
  obtain ⟨a, h0, w0⟩ := one_int Tryz.underlying3 (hf 0 _ rfl) (by rw [List.getElem?_eq_getElem (by omega)]; rfl)
  obtain ⟨b, h1, w1⟩ := one_int Tryz.underlying2 (hf 1 _ rfl) (by rw [List.getElem?_eq_getElem (by omega)]; rfl)
  obtain ⟨s, h2⟩ := one_string Tryz.underlying9 (hf 2 _ rfl) (by rw [List.getElem?_eq_getElem (by omega)]; rfl)
  replace h0 : List.take (Tryz.prog.cellsOf 3) (List.drop 0 cs) = [.int .i64 a] := h0
  replace h1 : List.take (Tryz.prog.cellsOf 2) (List.drop 1 cs) = [.int .i64 b] := h1
  replace h2 : List.take (Tryz.prog.cellsOf 9) (List.drop 2 cs) = [.string (bs s)] := h2
  rw [c38] at hl
  rw [c1] at h0
  rw [c2] at h1
  rw [c9] at h2
  match cs, hl with
  | [u0, u1, u2], _ =>
    simp at h0 h1 h2
    subst h0; subst h1; subst h2
    exact ⟨⟨a, b, s⟩, .cons (.int _ a) (.cons (.int _ b) (.cons (.str s) .nil)), trivial⟩
end
end Go.Proofs.YtjndellhebidoaaGreatDoor

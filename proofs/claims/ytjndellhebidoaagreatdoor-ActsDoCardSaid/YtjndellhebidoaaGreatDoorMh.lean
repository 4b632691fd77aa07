/- The laws ActsShows, ActsParses, ActsBack, ActsDo. Conditions: sizes; numbers are such. From a call's contract to a law's row: arguments opened, the row shut. Conditions: each theorem's own. From a row that lists the library's tables to what the walks ask; a world for the witness. Conditions: none. Lists of cells among the laws' arguments. Conditions: none. -/
import Derived.Test.YtjndellhebidoaaGreatDoorUk
import Derived.Test.YtjndellhebidoaaGreatDoorDa
import Derived.ProofKit
import Derived.Deep.Slices
import Derived.SizedLaws
import Derived.Test.YtjndellhebidoaaGreatDoorCards
import Derived.Test.YtjndellhebidoaaGreatDoorTie
import Derived.Deep.DeepHandedRow
import Derived.Lib.LaidTab
import Derived.LaidSub
import Derived.Stop.LaidErr
import Derived.MakeChecks
import Derived.Shelf.Vars
namespace Go.Proofs.YtjndellhebidoaaGreatDoor
open Go Go.Ev
set_option maxRecDepth 100000
/-! ### ActsShows -/
/-! ### ActsParses -/
theorem cells_few {l : List Deed} (h : blockOk l = true) : ∀ d ∈ l, d.expr.length ≤ 1000000 := fun d hd => by
  have := block_cells h d hd; omega
/-! ### ActsBack -/
noncomputable def cfgB11 : Cfg := ⟨tys0, [eWk6, eCpd, eSb1, nPb1, eSameD, eBlock]⟩
theorem cfgB11_ok : TabOk Tryz.prog cfgB11.tab := (TabOk.cons eWk6_ok (TabOk.cons eCpd_ok (TabOk.cons eSb1_ok (TabOk.cons nPb1_ok (TabOk.cons eSameD_ok (TabOk.cons eBlock_ok TabOk.nil))))))
noncomputable def cfgB00 : Cfg := ⟨tys0, [eWk6, eCpd, eSb0, nPb0, eSameD, eBlock]⟩
theorem cfgB00_ok : TabOk Tryz.prog cfgB00.tab := (TabOk.cons eWk6_ok (TabOk.cons eCpd_ok (TabOk.cons eSb0_ok (TabOk.cons nPb0_ok (TabOk.cons eSameD_ok (TabOk.cons eBlock_ok TabOk.nil))))))
def cfgB1 : Cfg := ⟨tys0, [eWk6, eCpd, eSb1, eSameD, eBlock]⟩
theorem cfgB1_ok : TabOk Tryz.prog cfgB1.tab := (TabOk.cons eWk6_ok (TabOk.cons eCpd_ok (TabOk.cons eSb1_ok (TabOk.cons eSameD_ok (TabOk.cons eBlock_ok TabOk.nil)))))
def cfgB0 : Cfg := ⟨tys0, [eWk6, eCpd, eSb0]⟩
theorem cfgB0_ok : TabOk Tryz.prog cfgB0.tab := (TabOk.cons eWk6_ok (TabOk.cons eCpd_ok (TabOk.cons eSb0_ok TabOk.nil)))
noncomputable def cfgBp : Cfg := ⟨tys0, [nPb1]⟩
theorem cfgBp_ok : TabOk Tryz.prog cfgBp.tab := (TabOk.cons nPb1_ok TabOk.nil)
noncomputable def cfgBq : Cfg := ⟨tys0, [eSameD, nPb0]⟩
theorem cfgBq_ok : TabOk Tryz.prog cfgBq.tab := (TabOk.cons eSameD_ok (TabOk.cons nPb0_ok TabOk.nil))
noncomputable def cfgBr : Cfg := ⟨tys0, [nPb1, eSb1, eBlock, eSameD]⟩
theorem cfgBr_ok : TabOk Tryz.prog cfgBr.tab := (TabOk.cons nPb1_ok (TabOk.cons eSb1_ok (TabOk.cons eBlock_ok (TabOk.cons eSameD_ok TabOk.nil))))


theorem back_fin {s : Str} (h : readsB s) : blockP (showB (blockP s).1) = ((blockP s).1, 0) := block_back (block_read h)
theorem acts_back_spec (l : List Deed) (s : Str) (hr : room l.length 48) (hx : ∀ a ∈ l, room a.expr.length 32) : Does Tryz.prog 8 [.l .deed l, .s s] [] (.x (.b true)) [] := by
  have fin1 : ∀ (h : readsB s) (b : Bool), b = (blockOk (blockP s).1 && (0 : Int) == 0 && (0 : Int) == 0 && sameDeeds (blockP s).1 (blockP (showB (blockP s).1)).1) → b = true := fun h b hb => by
    rw [hb, back_fin h, sameDeeds_self, block_read h]; rfl
  cases hl : blockOk l
  · by_cases h : readsB s
    · refine Does.of Tryz.func8 (by kernel_rfl) (by kernel_rfl) fun Γ => ?_
      refine J.go (cfg := cfgB0) cfgB0_ok Tryz.func8 1000 (t := (.ite false (.ret (.p (.bool false)) []) (.need (room (List.length l) 48 ∧ ∀ (a : ETy.den .deed), a ∈ l → room (List.length (Deed.expr a)) 32) (.need (blockOk l = false) (.ite false (.stop [.ops [1, 1, 1, 0, 1, 0, 0] 1, .code [1, 1, 1, 0, 1, 0, 1], .code [1, 1, 1, 1]] { n := 73, fr := [(0, .p (.lst .deed l)), (1, .p (.str s)), (4, .p (.bool false)), (26, .p (.str []))], ck := [], kn := [4] }) (.stop [.ops [1, 1, 1, 1, 0] 1, .code [1, 1, 1, 1, 1]] { n := 73, fr := [(4, .p (.bool false)), (39, .p (.str s))], ck := [], kn := [4] })))))) (by kernel_rfl) ?_
      refine ⟨fun x => Bool.noConfusion x, fun _ => ⟨⟨hr, hx⟩, hl, fun x => Bool.noConfusion x, fun _ => ?_⟩⟩
      refine J.go (cfg := cfgBr) cfgBr_ok Tryz.func8 1000 (t := (.need (readsB s) (.ite false (.ret (.p (.bool ((↑(List.length (Prod.fst (blockP s))) : Int) == (0 : Int)))) []) (.need (blockOk (Prod.fst (blockP s)) = true) (.need (readsB (showB (Prod.fst (blockP s)))) (.need ((blockOk (Prod.fst (blockP s)) && (0 : Int) == (0 : Int) && (0 : Int) == (0 : Int)) = true → ∀ (d : ETy.den .deed), d ∈ Prod.fst (blockP s) → List.length (Deed.expr d) ≤ 1000000) (.ret (.p (.bool (blockOk (Prod.fst (blockP s)) && (0 : Int) == (0 : Int) && (0 : Int) == (0 : Int) && sameDeeds (Prod.fst (blockP s)) (Prod.fst (blockP (showB (Prod.fst (blockP s)))))))) []))))))) (by kernel_rfl) ?_
      refine ⟨h, fun x => Bool.noConfusion x, fun _ => ⟨block_read h, ?_, fun _ => cells_few (block_read h), ?_, rfl⟩⟩
      · show (blockP _).2 = 0; rw [back_fin h]
      · exact congrArg (fun b : Bool => SV.x (SX.b b)) (fin1 h _ rfl)
    · refine Does.go (cfg := cfgB00) cfgB00_ok Tryz.func8 (by kernel_rfl) (by kernel_rfl) (t := (.ite false (.ret (.p (.bool false)) []) (.need (room (List.length l) 48 ∧ ∀ (a : ETy.den .deed), a ∈ l → room (List.length (Deed.expr a)) 32) (.need (blockOk l = false) (.ite false (.need (¬readsB []) (.need ((Prod.snd (blockP []) != (0 : Int)) = false → ∀ (d : ETy.den .deed), d ∈ l → List.length (Deed.expr d) ≤ 1000000) (.ite true (.ret (.p (.bool false)) []) (.need (¬readsB s) (.ite (Prod.snd (blockP s) != (0 : Int)) (.ret (.p (.bool true)) []) (.need (blockOk [] = false) (.need (¬readsB []) (.need ((false && Prod.snd (blockP []) == (0 : Int)) = true → ∀ (d : ETy.den .deed), d ∈ [] → List.length (Deed.expr d) ≤ 1000000) (.ret (.p (.bool false)) []))))))))) (.need (¬readsB s) (.ite (Prod.snd (blockP s) != (0 : Int)) (.ret (.p (.bool true)) []) (.need (blockOk [] = false) (.need (¬readsB []) (.need ((false && Prod.snd (blockP []) == (0 : Int)) = true → ∀ (d : ETy.den .deed), d ∈ [] → List.length (Deed.expr d) ≤ 1000000) (.ret (.p (.bool false)) []))))))))))) (by kernel_rfl) fun Γ => ?_
      refine ⟨fun x => Bool.noConfusion x, fun _ => ⟨⟨hr, hx⟩, hl, fun x => Bool.noConfusion x, fun _ => ⟨h, fun _ => ⟨rfl, rfl⟩, fun x => ?_⟩⟩⟩
      exact absurd (show (blockP s).2 = 0 by simpa using x) h
  · have hb := block_back hl
    have hrb : readsB (showB l) := by show (blockP _).2 = 0; rw [hb]
    have hsame : sameDeeds l (blockP (showB l)).1 = true := by rw [hb]; exact sameDeeds_self l
    by_cases h : readsB s
    · refine Does.go (cfg := cfgB11) cfgB11_ok Tryz.func8 (by kernel_rfl) (by kernel_rfl) (t := (.ite false (.ret (.p (.bool false)) []) (.need (room (List.length l) 48 ∧ ∀ (a : ETy.den .deed), a ∈ l → room (List.length (Deed.expr a)) 32) (.need (blockOk l = true) (.ite true (.need (readsB (showB l)) (.need (((0 : Int) != (0 : Int)) = false → ∀ (d : ETy.den .deed), d ∈ l → List.length (Deed.expr d) ≤ 1000000) (.ite (false || !sameDeeds l (Prod.fst (blockP (showB l)))) (.ret (.p (.bool false)) []) (.need (readsB s) (.ite false (.ret (.p (.bool ((↑(List.length (Prod.fst (blockP s))) : Int) == (0 : Int)))) []) (.need (blockOk (Prod.fst (blockP s)) = true) (.need (readsB (showB (Prod.fst (blockP s)))) (.need ((blockOk (Prod.fst (blockP s)) && (0 : Int) == (0 : Int) && (0 : Int) == (0 : Int)) = true → ∀ (d : ETy.den .deed), d ∈ Prod.fst (blockP s) → List.length (Deed.expr d) ≤ 1000000) (.ret (.p (.bool (blockOk (Prod.fst (blockP s)) && (0 : Int) == (0 : Int) && (0 : Int) == (0 : Int) && sameDeeds (Prod.fst (blockP s)) (Prod.fst (blockP (showB (Prod.fst (blockP s)))))))) []))))))))) (.need (readsB s) (.ite false (.ret (.p (.bool ((↑(List.length (Prod.fst (blockP s))) : Int) == (0 : Int)))) []) (.need (blockOk (Prod.fst (blockP s)) = true) (.need (readsB (showB (Prod.fst (blockP s)))) (.need ((blockOk (Prod.fst (blockP s)) && (0 : Int) == (0 : Int) && (0 : Int) == (0 : Int)) = true → ∀ (d : ETy.den .deed), d ∈ Prod.fst (blockP s) → List.length (Deed.expr d) ≤ 1000000) (.ret (.p (.bool (blockOk (Prod.fst (blockP s)) && (0 : Int) == (0 : Int) && (0 : Int) == (0 : Int) && sameDeeds (Prod.fst (blockP s)) (Prod.fst (blockP (showB (Prod.fst (blockP s)))))))) []))))))))))) (by kernel_rfl) fun Γ => ?_
      refine ⟨fun x => Bool.noConfusion x, fun _ => ⟨⟨hr, hx⟩, hl, fun _ => ⟨hrb, fun _ => cells_few hl, fun x => ?_, fun _ => ?_⟩, fun x => Bool.noConfusion x⟩⟩
      · rw [hsame] at x; exact Bool.noConfusion x
      · refine ⟨h, fun x => Bool.noConfusion x, fun _ => ⟨block_read h, ?_, fun _ => cells_few (block_read h), ?_, rfl⟩⟩
        · show (blockP _).2 = 0; rw [back_fin h]
        · exact congrArg (fun b : Bool => SV.x (SX.b b)) (fin1 h _ rfl)
    · refine Does.of Tryz.func8 (by kernel_rfl) (by kernel_rfl) fun Γ => ?_
      refine J.go (cfg := cfgB1) cfgB1_ok Tryz.func8 1000 (t := (.ite false (.ret (.p (.bool false)) []) (.need (room (List.length l) 48 ∧ ∀ (a : ETy.den .deed), a ∈ l → room (List.length (Deed.expr a)) 32) (.need (blockOk l = true) (.ite true (.stop [.ops [1, 1, 1, 0, 1, 0, 0] 1, .code [1, 1, 1, 0, 1, 0, 1], .code [1, 1, 1, 1]] { n := 73, fr := [(0, .p (.lst .deed l)), (1, .p (.str s)), (4, .p (.bool false)), (26, .p (.str (showB l)))], ck := [], kn := [4] }) (.stop [.ops [1, 1, 1, 1, 0] 1, .code [1, 1, 1, 1, 1]] { n := 73, fr := [(4, .p (.bool false)), (39, .p (.str s))], ck := [], kn := [4] })))))) (by kernel_rfl) ?_
      refine ⟨fun x => Bool.noConfusion x, fun _ => ⟨⟨hr, hx⟩, hl, fun _ => ?_, fun x => Bool.noConfusion x⟩⟩
      have hk : J Tryz.prog 8 (bodyOf Tryz.f8) Γ (Eq2 (.x (.b true)) []) [.ops [1, 1, 1, 0, 1, 0, 0] 2, .code [1, 1, 1, 0, 1, 0, 1], .code [1, 1, 1, 1]] ({ n := 73, fr := [(0, .p (.lst .deed l)), (1, .p (.str s)), (4, .p (.bool false)), (26, .p (.str (showB l))), (27, .tup [.c (.own 0), .i 0])], ck := [.own 60 .deed (blockP (showB l)).1], kn := [4] }) := by
        refine J.go (cfg := cfgBq) cfgBq_ok Tryz.func8 1000 (t := (.need (((0 : Int) != (0 : Int)) = false → ∀ (d : ETy.den .deed), d ∈ l → List.length (Deed.expr d) ≤ 1000000) (.ite (false || !sameDeeds l (Prod.fst (blockP (showB l)))) (.ret (.p (.bool false)) []) (.need (¬readsB s) (.ite (Prod.snd (blockP s) != (0 : Int)) (.ret (.p (.bool true)) []) (.stop [.ops [1, 1, 1, 1, 1, 1, 0] 1, .code [1, 1, 1, 1, 1, 1, 1]] { n := 73, fr := [(4, .p (.bool false)), (9, .p (.v (Value.slice none 0 0))), (49, .p (.v (Value.slice none 0 0)))], ck := [], kn := [4] })))))) (by kernel_rfl) ?_
        refine ⟨fun _ => cells_few hl, fun x => ?_, fun _ => ⟨h, fun _ => ⟨rfl, rfl⟩, fun x => ?_⟩⟩
        · rw [hsame] at x; exact Bool.noConfusion x
        · exact absurd (show (blockP s).2 = 0 by simpa using x) h
      exact J.step (cfg := cfgBp) cfgBp_ok (q := some (readsB (showB l))) (by kernel_rfl) hrb hk
/-! ### ActsDo -/
def cfgD : Cfg := ⟨tys0, [eWk6, eLong, eCpd, eDo, eRdo, eSv, eSameS]⟩
theorem cfgD_ok : TabOk Tryz.prog cfgD.tab := (TabOk.cons eWk6_ok (TabOk.cons eLong_ok (TabOk.cons eCpd_ok (TabOk.cons eDo_ok (TabOk.cons eRdo_ok (TabOk.cons eSv_ok (TabOk.cons eSameS_ok TabOk.nil)))))))
theorem acts_do_spec (l : List Deed) (vs : List Var) (vals : List Val) (hr : room l.length 48) (hx : ∀ a ∈ l, room a.expr.length 32) (hvs : room vs.length 64) (hvl : room vals.length 24) (hv : ∀ v ∈ vals, i64 v.a = true) :
    Does Tryz.prog 4 [.l .deed l, .agg [.pd (.lst .var vs), .pd (.lst .val vals)]] [] (.x (.b true)) [] := by
  refine Does.go (cfg := cfgD) cfgD_ok Tryz.func4 (by kernel_rfl) (by kernel_rfl) (t := (.ite false (.ret (.p (.bool false)) []) (.ite (decide ((↑(List.length l) : Int) > (100 : Int))) (.ret (.p (.bool true)) []) (.need (room (List.length l) 48 ∧ ∀ (a : ETy.den .deed), a ∈ l → room (List.length (Deed.expr a)) 32) (.need (room (List.length ([] ++ vs)) 64) (.need (room (List.length ([] ++ vals)) 24) (.need (List.length l ≤ 1000000 ∧ room (List.length ([] ++ vals)) 24 ∧ ∀ (v : ETy.den .val), v ∈ [] ++ vals → i64 (Val.a v) = true) (.need (List.length l ≤ 1000000 ∧ room (List.length vals) 24 ∧ ∀ (v : ETy.den .val), v ∈ vals → i64 (Val.a v) = true) (.ret (.p (.bool (sameVals (Prod.fst (doM l ([] ++ vs) ([] ++ vals))) (Prod.fst (doM l vs vals)) && Prod.fst (Prod.snd (doM l ([] ++ vs) ([] ++ vals))) == Prod.fst (Prod.snd (doM l vs vals)) && Prod.fst (Prod.snd (Prod.snd (doM l ([] ++ vs) ([] ++ vals)))) == Prod.fst (Prod.snd (Prod.snd (doM l vs vals))) && Prod.snd (Prod.snd (Prod.snd (doM l ([] ++ vs) ([] ++ vals)))) == Prod.snd (Prod.snd (Prod.snd (doM l vs vals)))))) []))))))))) (by kernel_rfl) fun Γ => ?_
  refine ⟨fun x => Bool.noConfusion x, fun _ => ⟨fun _ => ⟨rfl, rfl⟩, fun h => ?_⟩⟩
  have hl : l.length ≤ 1000000 := by have := of_decide_eq_false h; omega
  refine ⟨⟨hr, hx⟩, hvs, hvl, ⟨hl, hvl, hv⟩, ⟨hl, hvl, hv⟩, ?_, rfl⟩
  simp only [List.nil_append, sameVals_self, beq_self_eq_true, Bool.and_self]
end Go.Proofs.YtjndellhebidoaaGreatDoor
namespace Go.Ev
open Go.RowKit Go.ChangeShapes Go.WideShapes

def HW (W : World) : Mem := fun k => W.heap[k]?
def VW (W : World) : Vn := ⟨HW W, fun _ => 0, fun _ => undef⟩
theorem wok_entry (W : World) : WOk (entry [] (VW W) W) [] (VW W) W where
  ext := Fr.refl _ _
  imm := fun _ _ h => h
  hle := HLe.refl _
  frz := fun _ h => .inl h
  agr := fun i hi => absurd hi (Nat.not_lt_zero _)
  own := fun i c h => by simp at h
  base := fun i c b h => by simp at h
  inj := fun i j c d b h => by simp at h
theorem Does.law {P : Program} {f : FuncId} {args : List SX} {b : Bool} (h : Does P f args [] (.x (.c (.pd (.bool b)))) []) {W : World} (hT : Tabs P (HW W)) {vs : List Value} (hvs : All2 (SX.R (VW W)) args vs) :
    Calls P f vs.toArray W (fun e W' => e = .returned (.bool b) ∧ Below W.heap.size W W') := by
  refine (h W (VW W) vs (wok_entry W) hT hvs).mono fun e W' hp => ?_
  obtain ⟨v, V', rfl, hr, hw⟩ := hp
  have hr' : PR V'.H (.bool b) v := hr
  cases hr'
  refine ⟨rfl, hw.ext.os, hw.ext.tape, hw.ext.output, hw.ext.size, fun k hk => hw.ext.block k hk ?_⟩
  rintro ⟨i, c, hc, _⟩
  simp [entry] at hc
section
variable {Hh : Type} {enc : TypeId × Value → Hh} {P : Program} {W : World} {base : Nat} {spare : Nat → Bool} {held : Bool}
theorem cell_at {a : Addr} (hs : a.spot = none) {b off : Nat} (hb : a.block = b) (ho : a.off = off) {i : Nat} {u : Value} (h : W.cell? (a.add i) = some u) : ∃ cells e fr, W.heap[b]? = some (.cells cells e fr) ∧ cells[off + i]? = some u := by
  obtain ⟨b', off', sp⟩ := a
  simp only at hs hb ho
  subst hs; subst hb; subst ho
  rw [addr_add] at h
  unfold World.cell? at h
  split at h
  · rename_i c e fr hb
    exact ⟨c, e, fr, hb, by simpa using h⟩
  · cases h
end
section
variable {Hh : Type} {enc : TypeId × Value → Hh} {P : Program} {W W' : World}
theorem trodAll_below (hl : laidOutB P = true) (hb : Below W.heap.size W W') : ∀ {ts : List TypeId} {vs : List Value} {ds : List (DataW Hh)} {p : List MemPlace}, (∀ t ∈ ts, P.readableRec t = true ∧ t < P.types.size) → (∀ x ∈ p, x.block < W.heap.size) →
    DataW.TrodAll enc P W 0 (fun _ => true) true ts vs ds p → DataW.TrodAll enc P W' 0 (fun b => decide (b < W.heap.size)) true ts vs ds p
  | [], _, _, _, _, _, h => by
    obtain ⟨rfl, rfl, rfl⟩ := trodAll_nil h
    rfl
  | t :: ts, _, _, _, hr, hp, h => by
    obtain ⟨v, vs, d, ds, a, b, rfl, rfl, rfl, h1, h2⟩ := trodAll_cons h
    exact ⟨a, b, Below.trod hl (hr t List.mem_cons_self).1 (hr t List.mem_cons_self).2 h1 hb (fun x hx => hp x (List.mem_append_left _ hx)),
      trodAll_below hl hb (fun u hu => hr u (List.mem_cons_of_mem _ hu)) (fun x hx => hp x (List.mem_append_right _ hx)) h2, rfl⟩
theorem law_post {f : Func} {s : ChangeSpec} {tb : TypeId} {args : Array Value} {ds gs : List (DataW Hh)} {before : List MemPlace} (hl : laidOutB P = true) (hrt : f.resultTypes.toList = [tb]) (hsz : f.resultTypes.size = 1) (htb : P.underlying tb = some .bool) (hvars : s.vars = [])
    (hfn : (s.fn Hh ds).results = [.lit (.bool true)] ∧ (s.fn Hh ds).args = ds ∧ (s.fn Hh ds).vars = []) (hpar : ∀ t ∈ f.params.toList, P.readableRec t = true ∧ t < P.types.size)
    (hW : DataW.Whole enc P f.params.toList s.vars false W args.toList ds gs before) (hb : Below W.heap.size W W') : s.post enc P f false true false false W args (.bool true) W' := by
  have hW' := hW
  obtain ⟨p, q, hA, hV, rfl, hfz, hnd⟩ := hW
  rw [hvars] at hV
  obtain ⟨rfl, rfl⟩ := trodVars_none hV
  rw [List.append_nil] at hW' hfz
  have hlt : ∀ x ∈ p, x.block < W.heap.size := fun x hx => by simpa using hW'.lt x hx
  refine ⟨ds, [], p, [], p, [], hW', ?_, ?_, ?_, ?_, fun h => Bool.noConfusion h⟩
  · rw [List.append_nil, hfn.1, hrt, hsz]
    exact trodAll_mk1 (shut_bool htb _)
  · rw [List.append_nil, hfn.2.1]
    exact trodAll_below hl hb hpar hlt hA
  · rw [List.append_nil, hfn.2.2, hvars]
    rfl
  · exact World.keptBut_mono (fun x hx => ⟨hx, .inr (.inl hx)⟩) (hb.frame _)
end
end Go.Ev
namespace Go.Proofs.YtjndellhebidoaaGreatDoor
open Go Go.Ev Go.RowKit Go.ChangeShapes Go.WideShapes Go.ChangeAt
set_option maxRecDepth 100000
theorem own : ownKnob Tryz.prog.godebug = none := by kernel_rfl
theorem laidOut : laidOutB Tryz.prog = true := by kernel_rfl
theorem mvar_of {P : Program} {W : World} {name : String} {cs : Array Value} (h : W.var? P name = some cs) : MVar P (HW W) name cs := by
  unfold World.var? at h
  cases hg : P.globalNamed name with
  | none => rw [hg] at h; simp at h
  | some g =>
    rw [hg] at h
    simp only [Option.bind_some] at h
    split at h
    · rename_i c e fr hb
      simp only [Option.some.injEq] at h
      subst h
      exact ⟨g, e, fr, hg, hb⟩
    · cases h
abbrev textRange : ByteArray := ⟨#[118, 97, 108, 117, 101, 32, 111, 117, 116, 32, 111, 102, 32, 114, 97, 110, 103, 101]⟩
abbrev textSyntax : ByteArray := ⟨#[105, 110, 118, 97, 108, 105, 100, 32, 115, 121, 110, 116, 97, 120]⟩
theorem errRow (u : TypeId) (h : Tryz.prog.typeName? 3 u = some "*errors.errorString") : u = 235 :=
  typeName_ptr_named (nm := "errors.errorString") (by rw [show ("*" ++ "errors.errorString" : String) = "*errors.errorString" by kernel_rfl]; kernel_rfl) (by kernel_rfl) (by decide) u (by rw [show ("*" ++ "errors.errorString" : String) = "*errors.errorString" by kernel_rfl]; exact h)
theorem merr_of {W : World} {n : String} {text : List UInt8} {l : List (String × DataW Unit)} (h : laidMetH Tryz.prog l W) (e : (l.filter fun x => x.1 == n) = [(n, .iface "*errors.errorString" (.ptr (.agg [.lit (.string text)])))]) (ht : (Tryz.prog.globals[(Tryz.prog.globalNamed n).getD 0]?).map (·.type) = some 110) (hg : (Tryz.prog.globalNamed n).isSome = true) : MErr Tryz.prog (HW W) n := fun _ => by
  have h1 := laidMetH.filter (fun x => x.1 == n) h
  rw [e, MakeChecks.laidMetH_plain _ _ _ (by rfl)] at h1
  obtain ⟨g, hg⟩ := Option.isSome_iff_exists.1 hg
  rw [hg] at ht
  obtain ⟨a0, s0, hv0, -, -, -⟩ := laid_sentinel h1 hg ht Tryz.underlying110 errRow Tryz.underlying235 Tryz.underlying237 rfl rfl Tryz.underlying9 (by kernel_rfl) (by kernel_rfl)
  exact ⟨_, _, mvar_of hv0⟩
theorem maxlen_of {W : World} (h : W.ShapedOpen Tryz.prog) : MInt Tryz.prog (HW W) "internal/bytealg.MaxLen" := fun _ => by
  obtain ⟨m, hm⟩ : ∃ m, W.cell? ⟨0, 0, none⟩ = some (.int .i64 m) := Go.Proofs.cell_of_shapedOpen_int (zero := #[.int .i64 0]) (t := 3) h (of_decide_eq_true (by kernel_rfl)) (by kernel_rfl) rfl (by kernel_rfl) (by kernel_rfl) Tryz.underlying3
  unfold World.cell? at hm
  split at hm
  · split at hm
    · cases hm
    · rename_i cs e fr hb _
      exact ⟨0, cs, e, fr, m, by kernel_rfl, hb, hm⟩
  · cases hm
theorem tabs7 {W : World} (h : laidMetH Tryz.prog Rows.actsParsesRow.laid W) (hs : W.ShapedOpen Tryz.prog) : Tabs Tryz.prog (HW W) := by
  refine ⟨fun _ => ?_, merr_of (text := textSyntax.data.toList) h (by kernel_rfl) (by kernel_rfl) (by kernel_rfl), merr_of (text := textRange.data.toList) h (by kernel_rfl) (by kernel_rfl) (by kernel_rfl), maxlen_of hs⟩
  have h1 := laidMetH.filter (fun x => x.1 == "internal/strconv.uint64pow10") h
  have e : (Rows.actsParsesRow.laid.filter fun x => x.1 == "internal/strconv.uint64pow10") = [("internal/strconv.uint64pow10", Lib.tabData .u64 Lib.pow10Tab)] := by kernel_rfl
  rw [e] at h1
  have ht : (Tryz.prog.globals[(Tryz.prog.globalNamed "internal/strconv.uint64pow10").getD 0]?).map (·.type) = some 203 := by kernel_rfl
  exact mvar_of (Lib.tabIs_of_head (rest := []) (g := (Tryz.prog.globalNamed "internal/strconv.uint64pow10").getD 0) (by kernel_rfl) ht Tryz.underlying203 Tryz.underlying178 (by kernel_rfl) (by kernel_rfl) h1)
noncomputable def litCell : DataW Unit → List Value
  | .lit (.int k z) => [Value.int k z]
  | .agg [.lit (.int k z), .lit (.int k' z')] => [Value.int k z, Value.int k' z']
  | _ => []
noncomputable def tabCells : DataW Unit → Array Value
  | .agg ds => (ds.flatMap litCell).toArray
  | _ => #[]
noncomputable def layCells (name : String) (cs : Array Value) (heap : Array Obj) : Array Obj := heap.modify ((Tryz.prog.globalNamed name).getD 0) fun
  | .cells _ t frozen => .cells cs t frozen
  | o => o
noncomputable def layTab (name : String) (d : DataW Unit) (heap : Array Obj) : Array Obj := layCells name (tabCells d) heap
noncomputable def low : Nat := (World.holding Tryz.prog default ⟨#[], #[], []⟩).heap.size
noncomputable def world2 (os : Os) : World := World.holding Tryz.prog os ⟨#[.cells #[.string textRange] 237, .cells #[.string textSyntax] 237], #[], []⟩
noncomputable def laidWorld (os : Os) : World :=
  { world2 os with heap := layCells "strconv.ErrRange" #[.iface 235 (.pointer (some ⟨low, 0, none⟩))] (layCells "strconv.ErrSyntax" #[.iface 235 (.pointer (some ⟨low + 1, 0, none⟩))] (layTab "unicode/utf8.first" Rows.laid_unicode_utf8_first (layTab "unicode/utf8.acceptRanges" Rows.laid_unicode_utf8_acceptRanges (layTab "internal/strconv.uint64pow10" Rows.laid_internal_strconv_uint64pow10 (layTab "math/bits.deBruijn64tab" Rows.laid_math_bits_deBruijn64tab (layTab "math/bits.deBruijn32tab" Rows.laid_math_bits_deBruijn32tab (world2 os).heap)))))) }
theorem one_string {Hh : Type} {enc : TypeId × Value → Hh} {W : World} {base : Nat} {spare : Nat → Bool} {held : Bool} {t : TypeId} (ht : Tryz.prog.underlying t = some .string) {fuel : Nat} {cs : List Value} {y : Option (DataW Hh × List MemPlace)} (h : DataW.trod enc Tryz.prog W base spare held fuel t cs = y) (hy : y.isSome = true) : ∃ s, cs = [.string (bs s)] := by
  obtain ⟨x, rfl⟩ := Option.isSome_iff_exists.1 hy
  obtain ⟨s, h1, _⟩ := DataW.trod_string ht h
  exact ⟨s.data.toList, by rw [h1, bs_eta]⟩
theorem string9 {Hh : Type} {enc : TypeId × Value → Hh} {W : World} {base : Nat} {spare : Nat → Bool} {held : Bool} {v : Value} {d : DataW Hh} {ps : List MemPlace} {b0 : Nat} (h : DataW.Trod enc Tryz.prog W base spare held 9 v d ps) (hv : Value.okWide Tryz.prog W .any b0 9 v) :
    ∃ s : Str, SX.R (VW W) (.c (.pd (.str s))) v ∧ d = .lit (.string s) := by
  have hv' : Cell.okWide Tryz.prog W .any b0 9 v := by simpa only [Value.okWide, Tryz.underlying9] using hv
  obtain ⟨fuel, hf⟩ := h
  have hc : v.cells.toList = [v] := by
    have hv2 := hv'
    simp only [Cell.okWide, Tryz.underlying9, Cell.ok] at hv2
    cases v <;> first | rfl | exact hv2.elim
  rw [hc] at hf
  obtain ⟨s, h1, h2⟩ := DataW.trod_string Tryz.underlying9 hf
  simp only [List.cons.injEq, and_true] at h1
  subst h1
  refine ⟨s.data.toList, ?_, ?_⟩
  · have : PR (HW W) (.str s.data.toList) (.string (bs s.data.toList)) := .str _
    rw [bs_eta] at this
    exact this
  · exact congrArg Prod.fst h2.1
end Go.Proofs.YtjndellhebidoaaGreatDoor
namespace Go.Proofs.YtjndellhebidoaaGreatDoor
open Go Go.Ev Go.RowKit Go.ChangeShapes Go.WideShapes Go.ChangeAt
set_option maxRecDepth 100000
section
variable {Hh : Type} {enc : TypeId × Value → Hh} {W : World} {base : Nat} {spare : Nat → Bool} {held : Bool}
theorem one_int {t : TypeId} {k : IntKind} (ht : Tryz.prog.underlying t = some (.int k)) {fuel : Nat} {cs : List Value} {y : Option (DataW Hh × List MemPlace)} (h : DataW.trod enc Tryz.prog W base spare held fuel t cs = y) (hy : y.isSome = true) : ∃ n, cs = [.int k n] ∧ (Lit.int k n).wf = true := by
  obtain ⟨x, rfl⟩ := Option.isSome_iff_exists.1 hy
  obtain ⟨n, h1, _, h2⟩ := DataW.trod_int ht h
  exact ⟨n, h1, h2⟩
theorem cell_opened (n : Nat) (cs : List Value) (y : DataW Hh × List MemPlace) (h : DataW.trod enc Tryz.prog W base spare held n 88 cs = some y) : ∃ c : Cell, All2 (PR (HW W)) (ETy.cell.enc c) cs ∧ True := by
  obtain ⟨xs, m, _, rfl, hl, hlen, hf⟩ := DataW.trod_struct Tryz.underlying88 h
  have c38 : Tryz.prog.cellsOf 88 = 3 := by kernel_rfl
  have c1 : Tryz.prog.cellsOf 3 = 1 := by kernel_rfl
  have c2 : Tryz.prog.cellsOf 2 = 1 := by kernel_rfl
  have c9 : Tryz.prog.cellsOf 9 = 1 := by kernel_rfl
  have l3 : xs.length = 3 := hlen
  obtain ⟨a, h0, w0⟩ := one_int Tryz.underlying3 (hf 0 _ rfl) (by rw [List.getElem?_eq_getElem (by omega)]; rfl)
  obtain ⟨b, h1, w1⟩ := one_int Tryz.underlying2 (hf 1 _ rfl) (by rw [List.getElem?_eq_getElem (by omega)]; rfl)
  obtain ⟨s, h2⟩ := one_string Tryz.underlying9 (hf 2 _ rfl) (by rw [List.getElem?_eq_getElem (by omega)]; rfl)
  replace h0 : List.take (Tryz.prog.cellsOf 3) (List.drop 0 cs) = [.int .i64 a] := h0
  replace h1 : List.take (Tryz.prog.cellsOf 2) (List.drop 1 cs) = [.int .i64 b] := h1
  replace h2 : List.take (Tryz.prog.cellsOf 9) (List.drop 2 cs) = [.string (bs s)] := h2
  rw [c38] at hl
  rw [c1] at h0
  rw [c2] at h1
  rw [c9] at h2
  match cs, hl with
  | [u0, u1, u2], _ =>
    simp at h0 h1 h2
    subst h0; subst h1; subst h2
    exact ⟨⟨a, b, s⟩, .cons (.int _ a) (.cons (.int _ b) (.cons (.str s) .nil)), trivial⟩
end
end Go.Proofs.YtjndellhebidoaaGreatDoor

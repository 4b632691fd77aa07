/- Contracts: actions that may be. Conditions: none. Contracts: lists of cells alike; two rules of the executor. Conditions: none. The library's contracts of the shelf, laid at this dump by the kit's tools. Conditions: each one's own. The library's contracts of the shelf, laid at this dump by the kit's tools. Conditions: each one's own. The library's contracts of the shelf, laid at this dump by the kit's tools. Conditions: each one's own. Contracts: strings.Cut, Split, Join. Conditions: texts that are not too long; the library's variable. -/
import Derived.Test.YtpfidgnkokidoaaGreatDoorKd
import Derived.Test.YtpfidgnkokidoaaGreatDoorVb
import Derived.Test.YtpfidgnkokidoaaGreatDoorDa
import Derived.Shelf.LaysM
import Derived.Shelf.Strings.Split
import Derived.Test.YtpfidgnkokidoaaGreatDoorProg
import Derived.Shelf.Strings.Cut
import Derived.Shelf.Lays
import Derived.Shelf.Strings.OnBuilder
namespace Go.Proofs.YtpfidgnkokidoaaGreatDoor
open Go Go.Ev
set_option maxRecDepth 100000
theorem nP {α : Type} (p : α → Bool) : ∀ (l : List α) (i : Int), 0 ≤ i → (ft p l i ≥ 0 ↔ l.any p = true)
 | [], i, _ => by simp [ft]
 | x :: r, i, h => by
   have ih := nP p r (i + 1) (by omega)
   unfold ft
   rw [List.any_cons]
   cases hp : p x
   · simpa using ih
   · simpa using h
theorem uY {α : Type} (p : α → Bool) (l : List α) (i : Int) (h : 0 ≤ i) : decide (ft p l i ≥ 0) = l.any p := by
 have := nP p l i h
 cases hl : l.any p
 · rw [hl] at this; exact decide_eq_false (fun h2 => by simp at this; omega)
 · rw [hl] at this; exact decide_eq_true (this.2 rfl)
variable (l : List Cell) {b : Bool} (d : Deed) (Γ : Ctx)
theorem nt (h : (!b) = true) : b = false := by cases b <;> simp_all
theorem nf (h : (!b) = false) : b = true := by cases b <;> simp_all
/-! ### plain -/
def sh : Bool := l.any fun c => c.op == 6
def gf : Bool := iq l && !sh l
def bU : Str := [114, 97, 105, 115, 101, 58]
def df : Str := [115, 101, 110, 100, 58]
def cM : Bool := bif d.kind == 1 then aP d.name && gf d.expr else bif d.kind == 2 || d.kind == 3 then cw d.name && ((d.expr.length : Int) == 0) else false
def mO (l : List Deed) : Bool := l.all cM && (decide ((l.length : Int) > 0) && decide ((l.length : Int) ≤ 8))
/-! ### the program's -/
theorem yu (c : Cell) : ah Tryz.prog 190 [.e .cell c] [] (.x (.b (c.op == 6))) [] := by
 refine dg bN Tryz.func190 (.ret (.p (.bool (c.op == (6 : Int)))) []) fun Γ => ⟨rfl, rfl⟩
def sC : Ent := (190, fun
 | [.agg [.pd (.int .i64 a), .pd (.int .i64 b), .pd (.str d)]], [] => some (none, .x (.c (.pd (.bool (a == 6)))), [])
 | _, _ => none)
theorem BA : EntOk Tryz.prog sC := entOk fun vs ck => by
 unfold sC; dsimp only; split
 · rename_i a b d; exact entS fun hp => yu ⟨a, b, d⟩
 · exact entN
def qB : Cfg := ⟨bn, [sC]⟩
theorem oZ : ag Tryz.prog qB.tab := (ag.cons BA ag.nil)
abbrev zUp1 : List PI := [.code [1, 0, 1, 0, 0], .inLoop [1, 0, 1, 0, 0], .inBlock 0, .code [1, 1]]
theorem Cc (hl : l.length ≤ maxLen)  : ∀ (n k : Nat), l.length - k ≤ n → k ≤ l.length →
 J Tryz.prog 211 (aE Tryz.f211) Γ (Eq2 (.x (.i (ft (fun c : Cell => c.op == 6) (l.drop k) k))) []) zUp1 ({ n := 19, fr := [(0, .p (.lst .cell l)), (1, .x (.c (.fn (.func 190) [] []))), (4, .i 0), (7, .i l.length), (8, .i k)], ck := [] }) := by
 intro n
 induction n with
 | zero => ?_
 | succ n ih => ?_
 all_goals
  intro k hn hk
  refine jg oZ Tryz.func211 (.ite (decide ((k : Int) < (l.length : Int))) (.need (inRg k l.length) (.ite (Cell.op (ETy.get .cell l k) == (6 : Int)) (.ret (.i k) []) (.stop zUp1 { n := 19, fr := [(0, .p (.lst .cell l)), (1, .x (.c (.fn (.func 190) [] []))), (4, .i 0), (7, .i l.length), (8, .i (IntKind.wrap .i64 ((k : Int) + 1)))], ck := [] }))) (.ret (.i (-1 : Int)) [])) ?_
  refine ⟨fun hlt => ?_, fun hge => ?_⟩
  · have hk' : k < l.length := by have := of_decide_eq_true hlt; omega
    rw [hO (t := .cell) (l := l) hk']
    refine ⟨by omega, ?_⟩
    generalize ETy.get .cell l k = v
    refine ⟨fun hb => ⟨?_, rfl⟩, fun hb => ?_⟩
    · simp only [ft, hb, cond_true]
    · simp only [ft, hb, cond_false]; (rw [fW (rh hk' hl)]; first | (exfalso; omega) | exact ih (k + 1) (by omega) (by omega))
  · rw [gU (l := l) (by have := of_decide_eq_false hge; omega)]
    exact ⟨rfl, rfl⟩
theorem Ce : ah Tryz.prog 211 [.l .cell (l), SX.c (SC.fn (Fn.func 190) [] [])] [] (.x (.i (ft (fun c : Cell => c.op == 6) l 0))) [] := by
 refine dg oZ Tryz.func211 (.stop zUp1 { n := 19, fr := [(0, .p (.lst .cell l)), (1, .x (.c (.fn (.func 190) [] []))), (4, .i 0), (7, .i l.length), (8, .i 0)], ck := [] }) fun Γ => ?_
 exact J.len 0 rfl fun hl => Cc l Γ hl l.length 0 (by omega) (by omega)
def xg : Ent := (211, fun
 | [.c (.pd (.lst .cell l)), .c (.fn (.func 190) [] [])], [] => some (none, .x (.c (.pd (.int .i64 (ft (fun c : Cell => c.op == 6) l 0)))), [])
 | _, _ => none)
theorem Ep : EntOk Tryz.prog xg := entOk fun vs ck => by
 unfold xg; dsimp only; split
 · rename_i l; exact entS fun hp => Ce l
 · exact entN
def yF : Cfg := ⟨bn, [xg]⟩
theorem yO : ag Tryz.prog yF.tab := (ag.cons Ep ag.nil)
theorem Cx : ah Tryz.prog 189 [.l .cell l, .c (.fn (.func 190) [] [])] [] (.x (.b (sh l))) [] := by
 refine dg yO Tryz.func189 (.ret (.p (.bool (decide (ft (fun c => c.op == (6 : Int)) l (0 : Int) ≥ 0)))) []) fun Γ => ⟨?_, rfl⟩
 rw [uY _ _ _ (by omega)]; rfl
def xz : Ent := (189, fun
 | [.c (.pd (.lst .cell l)), .c (.fn (.func 190) [] [])], [] => some (none, .x (.c (.pd (.bool (sh l)))), [])
 | _, _ => none)
theorem EW : EntOk Tryz.prog xz := entOk fun vs ck => by
 unfold xz; dsimp only; split
 · rename_i l; exact entS fun hp => Cx l
 · exact entN
def um : Cfg := ⟨bn, [mn, xz]⟩
theorem uS : ag Tryz.prog um.tab := (ag.cons rJ (ag.cons EW ag.nil))
theorem vj : ah Tryz.prog 163 [.l .cell l] [] (.x (.b (gf l))) [] := by
 refine dg uS Tryz.func163 (.ret (.p (.bool (iq l && !sh l))) []) fun Γ => ?_
 exact ⟨rfl, rfl⟩
def jb : Ent := (163, fun
 | [.c (.pd (.lst .cell l))], [] => some (none, .x (.c (.pd (.bool (gf l)))), [])
 | _, _ => none)
theorem kK : EntOk Tryz.prog jb := entOk fun vs ck => by
 unfold jb; dsimp only; split
 · rename_i l; exact entS fun hp => vj l
 · exact entN
def vB : Cfg := ⟨bn, [fe, jb, gg]⟩
theorem wc : ag Tryz.prog vB.tab := (ag.cons dS (ag.cons kK (ag.cons fT ag.nil)))
theorem y6 : ah Tryz.prog 137 [.e .deed d] [] (.x (.b (cM d))) [] := by
 refine dg wc Tryz.func137 (.ite (d.kind == (1 : Int)) (.ret (.p (.bool (aP d.name && gf d.expr))) []) (.ite (d.kind == (2 : Int)) (.ret (.p (.bool (cw d.name && (d.expr.length : Int) == 0))) []) (.ite (d.kind == (3 : Int)) (.ret (.p (.bool (cw d.name && (d.expr.length : Int) == 0))) []) (.ret (.p (.bool false)) [])))) fun Γ => ?_
 unfold cM
 refine ⟨fun h => ?_, fun h1 => ⟨fun h => ?_, fun h2 => ⟨fun h => ?_, fun h3 => ?_⟩⟩⟩
 · rw [h]; exact ⟨rfl, rfl⟩
 · rw [h1, h]; exact ⟨rfl, rfl⟩
 · rw [h1, h2, h]; exact ⟨rfl, rfl⟩
 · rw [h1, h2, h3]; exact ⟨rfl, rfl⟩
def sJ : Ent := (137, fun
 | [.agg [.pd (.int .i64 a), .pd (.str b), .pd (.lst .cell d)]], [] => some (none, .x (.c (.pd (.bool (cM ⟨a, b, d⟩)))), [])
 | _, _ => none)
theorem CG : EntOk Tryz.prog sJ := entOk fun vs ck => by
 unfold sJ; dsimp only; split
 · rename_i a b d; exact entS fun hp => y6 ⟨a, b, d⟩
 · exact entN
def ot : Cfg := ⟨bn, [sJ]⟩
theorem nH : ag Tryz.prog ot.tab := (ag.cons CG ag.nil)
theorem D5 (l : List Deed) (Γ : Ctx) (hl : l.length ≤ maxLen)  : ∀ (n k : Nat), l.length - k ≤ n → k ≤ l.length →
 J Tryz.prog 101 (aE Tryz.f101) Γ (Eq2 (.x (.b ((l.drop k).all cM && (decide ((l.length : Int) > 0) && decide ((l.length : Int) ≤ 8))))) []) zUp1 ({ n := 23, fr := [(0, .p (.lst .deed l)), (2, .p (.bool false)), (5, .p (.lst .deed l)), (6, .i l.length), (7, .i k)], ck := [], kn := [2] }) := by
 intro n
 induction n with
 | zero => ?_
 | succ n ih => ?_
 all_goals
  intro k hn hk
  refine jg nH Tryz.func101 (.ite (decide ((k : Int) < (l.length : Int))) (.need (inRg k l.length) (.ite (!cM (ETy.get .deed l k)) (.ret (.p (.bool false)) []) (.stop zUp1 { n := 23, fr := [(0, .p (.lst .deed l)), (2, .p (.bool false)), (5, .p (.lst .deed l)), (6, .i l.length), (7, .i (IntKind.wrap .i64 ((k : Int) + 1)))], ck := [], kn := [2] }))) (.ret (.p (.bool (decide ((l.length : Int) > 0) && decide ((l.length : Int) ≤ 8)))) [])) ?_
  refine ⟨fun hlt => ?_, fun hge => ?_⟩
  · have hk' : k < l.length := by have := of_decide_eq_true hlt; omega
    rw [hO (t := .deed) (l := l) hk']
    refine ⟨by omega, ?_⟩
    generalize ETy.get .deed l k = v
    rw [bq]
    refine ⟨fun hb => ⟨?_, rfl⟩, fun hb => ?_⟩
    · have hb' : cM v = false := nt hb
      rw [hb']; rfl
    · have hb' : cM v = true := nf hb
      rw [hb', eV]; (rw [fW (rh hk' hl)]; first | (exfalso; omega) | exact ih (k + 1) (by omega) (by omega))
  · rw [gU (l := l) (by have := of_decide_eq_false hge; omega)]
    exact ⟨rfl, rfl⟩
theorem EZ (l : List Deed) : ah Tryz.prog 101 [.l .deed (l)] [] (.x (.b (mO l))) [] := by
 refine dg nH Tryz.func101 (.stop zUp1 { n := 23, fr := [(0, .p (.lst .deed l)), (2, .p (.bool false)), (5, .p (.lst .deed l)), (6, .i l.length), (7, .i 0)], ck := [], kn := [2] }) fun Γ => ?_
 exact J.len 0 rfl fun hl => D5 l Γ hl l.length 0 (by omega) (by omega)
def oJ : Ent := (101, fun
 | [.c (.pd (.lst .deed l))], [] => some (none, .x (.c (.pd (.bool (mO l)))), [])
 | _, _ => none)
theorem Ap : EntOk Tryz.prog oJ := entOk fun vs ck => by
 unfold oJ; dsimp only; split
 · rename_i l; exact entS fun hp => EZ l
 · exact entN
theorem J.settle {P : Program} {f : FuncId} {root : Code} {Γ : Ctx} {Q : Out} {todo : List PI} {st : ST} {t s : Nat} {want : Bool} {v : SX} (hm : (t, SV.grd s want v) ∈ st.fr) (hb : lookup st.fr s = some (.x (.c (.pd (.bool want))))) {fr' : List (Nat × SV)} (hf : ∀ p ∈ fr', p ∈ st.fr ∨ p = (t, .x v))
 (hk : J P f root Γ Q todo { st with fr := fr' }) : J P f root Γ Q todo st := by
 intro hT V a w r
 have hon : a.tmps.getD s undef = .bool want := by
  have := r.slots s _ (cE hb)
  have h2 : SX.R V (.c (.pd (.bool want))) (a.tmps.getD s undef) := this
  generalize a.tmps.getD s undef = u at h2 ⊢
  cases h2; rfl
 have hv : cJ V a t (.x v) := (r.slots t _ hm).1 hon
 refine hk hT V a w ⟨r.1, r.2, fun t' sv h' => ?_, r.4, r.5⟩
 rcases hf _ h' with h | h
 · exact r.slots _ _ h
 · simp only [ab] at h
   obtain ⟨rfl, rfl⟩ := h; exact hv
def vJ (P : Program) (cfg : Cfg) (root : Code) (p : List Nat) (i : Nat) (st : ST) : Option (Option Prop × ST) :=
 match (opsOf (sub root p))[i]? with
 | some o => match o.guard with
   | none => mJ P cfg o st
   | some _ => none
 | none => none
theorem J.step {P : Program} {cfg : Cfg} {f : FuncId} {root : Code} {Γ : Ctx} {Q : Out} {st st' : ST} (ht : ag P cfg.tab) {p : List Nat} {i : Nat} {k : List PI} {q : Option Prop} (h : vJ P cfg root p i st = some (q, st')) (hq : Holds q) (hk : J P f root Γ Q (.ops p (i + 1) :: k) st') : J P f root Γ Q (.ops p i :: k) st := by
 unfold vJ at h
 split at h
 · rename_i o ho
   split at h
   · rename_i hg
     intro hT V a w r
     have hi : i < (opsOf (sub root p)).size := (Array.getElem?_eq_some_iff.1 ho).1
     have hsz : (opsOf (sub root p)).size - i = ((opsOf (sub root p)).size - (i + 1)) + 1 := by omega
     simp only [ax, PI.den]
     rw [hsz, bM]
     exact gS ⟨ht, hT⟩ r ho (by simp only [Region.wanted, hg]) h hq fun V' a' w' r' => hk hT V' a' w' r'
   · cases h
 · cases h
/-! ### lists, alike -/
end Go.Proofs.YtpfidgnkokidoaaGreatDoor
namespace Go.Proofs
open Go.Shelf
def Tryz.lays146_ren : Go.Shelf.Ren := ⟨fun | 146 => 17 | 221 => 47 | 268 => 88 | 138 => 89 | 143 => 90 | 195 => 123 | 197 => 124 | 218 => 125 | 219 => 126 | 260 => 164 | 217 => 165 | 225 => 166 | 224 => 167 | 267 => 168 | 266 => 191 | 314 => 192 | n => n, fun | 9 => 9 | 31 => 22 | 3 => 3 | 4 => 4 | 0 => 0 | 105 => 173 | 21 => 21 | 5 => 5 | 46 => 145 | 119 => 232 | 139 => 235 | 138 => 234 | 146 => 180 | 51 => 179 | n => n, fun | 1 => 0 | 3 => 1 | 4 => 2 | n => n⟩
theorem Tryz.lays146 : Go.Proofs.Lays.n146 Tryz.prog Tryz.lays146_ren := {
 mixed := by kernel_rfl
 f138 := Tryz.func89.trans (congrArg some (by kernel_rfl))
 f143 := Tryz.func90.trans (congrArg some (by kernel_rfl))
 f146 := Tryz.func17.trans (congrArg some (by kernel_rfl))
 f195 := Tryz.func123.trans (congrArg some (by kernel_rfl))
 f197 := Tryz.func124.trans (congrArg some (by kernel_rfl))
 f217 := Tryz.func165.trans (congrArg some (by kernel_rfl))
 f218 := Tryz.func125.trans (congrArg some (by kernel_rfl))
 f219 := Tryz.func126.trans (congrArg some (by kernel_rfl))
 f221 := Tryz.func47.trans (congrArg some (by kernel_rfl))
 f224 := Tryz.func167.trans (congrArg some (by kernel_rfl))
 f225 := Tryz.func166.trans (congrArg some (by kernel_rfl))
 f260 := Tryz.func164.trans (congrArg some (by kernel_rfl))
 f266 := Tryz.func191.trans (congrArg some (by kernel_rfl))
 f267 := Tryz.func168.trans (congrArg some (by kernel_rfl))
 f268 := Tryz.func88.trans (congrArg some (by kernel_rfl))
 f314 := Tryz.func192.trans (congrArg some (by kernel_rfl))
 t0 := Tryz.underlying0
 a0 := Tryz.isAgg0
 z0 := Tryz.sizeOf0
 v0 := Tryz.zeroValue0
 t3 := Tryz.underlying3
 a3 := Tryz.isAgg3
 z3 := Tryz.sizeOf3
 v3 := Tryz.zeroValue3
 t4 := Tryz.underlying4
 a4 := Tryz.isAgg4
 z4 := Tryz.sizeOf4
 v4 := Tryz.zeroValue4
 t5 := Tryz.underlying5
 a5 := Tryz.isAgg5
 z5 := Tryz.sizeOf5
 v5 := Tryz.zeroValue5
 t9 := Tryz.underlying9
 a9 := Tryz.isAgg9
 z9 := Tryz.sizeOf9
 v9 := Tryz.zeroValue9
 t21 := Tryz.underlying21
 a21 := Tryz.isAgg21
 z21 := Tryz.sizeOf21
 v21 := Tryz.zeroValue21
 t31 := Tryz.underlying22
 a31 := Tryz.isAgg22
 z31 := Tryz.sizeOf22
 v31 := Tryz.zeroValue22
 t46 := Tryz.underlying145
 a46 := Tryz.isAgg145
 z46 := Tryz.sizeOf145
 v46 := Tryz.zeroValue145
 t51 := Tryz.underlying179
 a51 := Tryz.isAgg179
 z51 := Tryz.sizeOf179
 v51 := Tryz.zeroValue179
 t105 := Tryz.underlying173
 a105 := Tryz.isAgg173
 z105 := Tryz.sizeOf173
 v105 := Tryz.zeroValue173
 t119 := Tryz.underlying232
 a119 := Tryz.isAgg232
 z119 := Tryz.sizeOf232
 t138 := Tryz.underlying234
 a138 := Tryz.isAgg234
 z138 := Tryz.sizeOf234
 v138 := Tryz.zeroValue234
 t139 := Tryz.underlying235
 a139 := Tryz.isAgg235
 z139 := Tryz.sizeOf235
 v139 := Tryz.zeroValue235
 t146 := Tryz.underlying180
 a146 := Tryz.isAgg180
 z146 := Tryz.sizeOf180
 v146 := Tryz.zeroValue180
 g1 := by kernel_rfl
 g3 := by kernel_rfl
 g4 := by kernel_rfl }
open Go.RowKit Go.Lib in
theorem Tryz.strings_Split (s sep : ByteArray) (m : Int) (w : World) (hs : s.size < 4294967281) (hm : w.cell? ⟨0, 0, none⟩ = some (.int .i64 m)) (h1 : 1 ≤ sep.size) :
 Calls Tryz.prog 17 #[.string s, .string sep] w fun e w' =>
  e = .returned (.slice (some ⟨w.heap.size, 0, none⟩) (Lib.countB s sep + 1) (Lib.countB s sep + 1)) ∧ w' = w.alloc (.cells ((Lib.splitB sep 0 (Lib.countB s sep) s).map Value.string).toArray 9) := Any.strings_Split Tryz.lays146 (by kernel_rfl) s sep m w hs hm h1
def Tryz.lays145_ren : Go.Shelf.Ren := ⟨fun | 145 => 162 | 220 => 188 | 219 => 126 | 217 => 165 | 225 => 166 | 224 => 167 | 267 => 168 | 266 => 191 | 314 => 192 | n => n, fun | 9 => 9 | 4 => 4 | 59 => 203 | 3 => 3 | 5 => 5 | 46 => 145 | 146 => 180 | 51 => 179 | n => n, fun | 1 => 0 | n => n⟩
theorem Tryz.lays145 : Go.Proofs.Lays.n145 Tryz.prog Tryz.lays145_ren := {
 mixed := by kernel_rfl
 f145 := Tryz.func162.trans (congrArg some (by kernel_rfl))
 f217 := Tryz.func165.trans (congrArg some (by kernel_rfl))
 f219 := Tryz.func126.trans (congrArg some (by kernel_rfl))
 f220 := Tryz.func188.trans (congrArg some (by kernel_rfl))
 f224 := Tryz.func167.trans (congrArg some (by kernel_rfl))
 f225 := Tryz.func166.trans (congrArg some (by kernel_rfl))
 f266 := Tryz.func191.trans (congrArg some (by kernel_rfl))
 f267 := Tryz.func168.trans (congrArg some (by kernel_rfl))
 f314 := Tryz.func192.trans (congrArg some (by kernel_rfl))
 t3 := Tryz.underlying3
 a3 := Tryz.isAgg3
 z3 := Tryz.sizeOf3
 v3 := Tryz.zeroValue3
 t4 := Tryz.underlying4
 a4 := Tryz.isAgg4
 z4 := Tryz.sizeOf4
 v4 := Tryz.zeroValue4
 t5 := Tryz.underlying5
 a5 := Tryz.isAgg5
 z5 := Tryz.sizeOf5
 v5 := Tryz.zeroValue5
 t9 := Tryz.underlying9
 a9 := Tryz.isAgg9
 z9 := Tryz.sizeOf9
 v9 := Tryz.zeroValue9
 t46 := Tryz.underlying145
 a46 := Tryz.isAgg145
 z46 := Tryz.sizeOf145
 v46 := Tryz.zeroValue145
 t51 := Tryz.underlying179
 a51 := Tryz.isAgg179
 z51 := Tryz.sizeOf179
 v51 := Tryz.zeroValue179
 t59 := Tryz.underlying203
 a59 := Tryz.isAgg203
 z59 := Tryz.sizeOf203
 v59 := Tryz.zeroValue203
 t146 := Tryz.underlying180
 a146 := Tryz.isAgg180
 z146 := Tryz.sizeOf180
 v146 := Tryz.zeroValue180
 g1 := by kernel_rfl }
open Go.RowKit Go.Lib in
theorem Tryz.strings_Cut (s sep : ByteArray) (m : Int) (w : World) (hs : s.size < 4294967281) (hm : w.cell? ⟨0, 0, none⟩ = some (.int .i64 m)) :
 Calls Tryz.prog 162 #[.string s, .string sep] w fun e w' => e = .returned (.tuple #[.string ⟨(Lib.cut s.data.toList sep.data.toList).1.toArray⟩, .string ⟨(Lib.cut s.data.toList sep.data.toList).2.1.toArray⟩, .bool (Lib.cut s.data.toList sep.data.toList).2.2]) ∧ ∃ n, w' = w.drewN n := Any.strings_Cut Tryz.lays145 s sep m w hs hm
def Tryz.lays156_ren : Go.Shelf.Ren := ⟨fun | 156 => 102 | 165 => 100 | 166 => 26 | 169 => 30 | 240 => 54 | 241 => 136 | 276 => 96 | 277 => 176 | n => n, fun | 31 => 22 | 9 => 9 | 3 => 3 | 4 => 4 | 0 => 0 | 20 => 20 | 72 => 73 | 76 => 76 | 70 => 70 | 37 => 71 | 75 => 75 | 127 => 103 | 164 => 141 | 5 => 5 | 80 => 81 | n => n, fun | n => n⟩
theorem Tryz.lays156 : Go.Proofs.Lays.n156 Tryz.prog Tryz.lays156_ren := {
 mixed := by kernel_rfl
 f156 := Tryz.func102.trans (congrArg some (by kernel_rfl))
 f165 := Tryz.func100.trans (congrArg some (by kernel_rfl))
 f166 := Tryz.func26.trans (congrArg some (by kernel_rfl))
 f169 := Tryz.func30.trans (congrArg some (by kernel_rfl))
 f240 := Tryz.func54.trans (congrArg some (by kernel_rfl))
 f241 := Tryz.func136.trans (congrArg some (by kernel_rfl))
 f276 := Tryz.func96.trans (congrArg some (by kernel_rfl))
 f277 := Tryz.func176.trans (congrArg some (by kernel_rfl))
 t0 := Tryz.underlying0
 a0 := Tryz.isAgg0
 z0 := Tryz.sizeOf0
 v0 := Tryz.zeroValue0
 t3 := Tryz.underlying3
 a3 := Tryz.isAgg3
 z3 := Tryz.sizeOf3
 v3 := Tryz.zeroValue3
 t4 := Tryz.underlying4
 a4 := Tryz.isAgg4
 z4 := Tryz.sizeOf4
 v4 := Tryz.zeroValue4
 t9 := Tryz.underlying9
 a9 := Tryz.isAgg9
 z9 := Tryz.sizeOf9
 v9 := Tryz.zeroValue9
 t20 := Tryz.underlying20
 a20 := Tryz.isAgg20
 z20 := Tryz.sizeOf20
 v20 := Tryz.zeroValue20
 t31 := Tryz.underlying22
 a31 := Tryz.isAgg22
 z31 := Tryz.sizeOf22
 v31 := Tryz.zeroValue22
 t37 := Tryz.underlying71
 a37 := Tryz.isAgg71
 z37 := Tryz.sizeOf71
 v37 := Tryz.zeroValue71
 t70 := Tryz.underlying70
 a70 := Tryz.isAgg70
 z70 := Tryz.sizeOf70
 v70 := Tryz.zeroValue70
 t72 := Tryz.underlying73
 a72 := Tryz.isAgg73
 z72 := Tryz.sizeOf73
 v72 := Tryz.zeroValue73
 t75 := Tryz.underlying75
 a75 := Tryz.isAgg75
 z75 := Tryz.sizeOf75
 v75 := Tryz.zeroValue75
 t76 := Tryz.underlying76
 a76 := Tryz.isAgg76
 z76 := Tryz.sizeOf76
 v76 := Tryz.zeroValue76
 t127 := Tryz.underlying103
 a127 := Tryz.isAgg103
 z127 := Tryz.sizeOf103
 v127 := Tryz.zeroValue103
 t164 := Tryz.underlying141
 a164 := Tryz.isAgg141
 z164 := Tryz.sizeOf141
 v164 := Tryz.zeroValue141 }
theorem Tryz.Builder_Extra_156 : Builder.Extra Tryz.prog Tryz.lays156_ren := {
 sizeBuilder := by kernel_rfl
 liesBuilder := by kernel_rfl
 t5 := Tryz.underlying5
 a5 := Tryz.isAgg5
 z5 := Tryz.sizeOf5
 v5 := Tryz.zeroValue5
 infoByte := by kernel_rfl
 cellsByte := by kernel_rfl
 sizeByte := by kernel_rfl
 neB5 := by decide }
end Go.Proofs
namespace Go.Proofs.YtpfidgnkokidoaaGreatDoor
open Go Go.Ev Go.RowKit
set_option maxRecDepth 100000
variable {V : Vn} (s : Str)
theorem j6 {w : World} (hT : iK Tryz.prog V.H) (hi : HIn V.H w) : ∃ m, w.cell? ⟨0, 0, none⟩ = some (.int .i64 m) := by
 obtain ⟨g, cs, e, fr, m, h1, h2, h3⟩ := hT.2.2.2 (by kernel_rfl)
 have e1 : g = 0 := (al ((show Tryz.prog.globalNamed "internal/bytealg.MaxLen" = some 0 by kernel_rfl).symm.trans h1)).symm
 subst e1
 have h4 := hi _ _ h2
 exact ⟨m, by simp only [World.cell?, h4]; exact h3⟩
theorem jy {a b : Str} {vs : List Value} (hv : All2 (SX.R V) [SX.s a, SX.s b] vs) : vs = [.string (bs a), .string (bs b)] := by
 cases hv with
 | cons a1 hv => cases hv with
   | cons a2 hv =>
     cases hv
     have a1' : PR V.H (.str a) _ := a1
     have a2' : PR V.H (.str b) _ := a2
     cases a1'; cases a2'
     rfl
theorem CK (hs : s.length < 4294967281) : ah Tryz.prog 162 [.s s, .s [61]] [] (.tup [.s (dc s), .s (bO s), .b (dL s)]) [] := by
 intro w V vs hw hT hv
 rw [jy hv]
 obtain ⟨m, hm⟩ := j6 hT hw.imm
 refine (Tryz.strings_Cut (bs s) (bs [61]) m w (by rw [dq]; exact hs) hm).mono fun e w' ⟨he, n, hw'⟩ => ?_
 subst he; subst hw'
 refine ⟨_, V, rfl, ?_, hw.kept ⟨rfl, rfl, rfl, ay _, fun _ _ _ => rfl⟩⟩
 rw [bX, bX, Gd]
 have key : (if dL s = true then (dc s, bO s, true) else (s, [], false)) = (dc s, bO s, dL s) := by
  cases h : dL s
  · obtain ⟨h1, h2⟩ := Gf s h
    rw [h1, h2]; rfl
  · rfl
 rw [key]
 exact ⟨_, rfl, .cons (PR.str _) (.cons (PR.str _) (.cons (PR.bool _) .nil))⟩
def oQ : Ent := (162, fun
 | [.c (.pd (.str s)), .c (.pd (.str [61]))], [] => some (some (s.length < 4294967281), .tup [.c (.pd (.str (dc s))), .c (.pd (.str (bO s))), .c (.pd (.bool (dL s)))], [])
 | _, _ => none)
theorem tV : EntOk Tryz.prog oQ := entOk fun vs ck => by
 unfold oQ; dsimp only; split
 · rename_i s; exact entS fun hp => CK s hp
 · exact entN
theorem j7 : ∀ (s cur : Str), (aZ cur s).length = s.countP (· == 59) + 1
 | [], cur => rfl
 | c :: r, cur => by
   rw [aZ, List.countP_cons]
   cases h : c == 59
   · rw [cond_false, j7 r]; simp
   · rw [cond_true, ak, j7 r]; simp
theorem tf : (aZ [] s).length ≤ s.length + 1 := by
 rw [j7]; have := List.countP_le_length (p := (· == (59 : UInt8))) (l := s); omega
theorem oA {H : Mem} : ∀ (l : List Str), All2 (PR H) (l.flatMap ETy.str.enc) (l.map fun s => Value.string (bs s))
 | [] => .nil
 | s :: r => .cons (.str s) (oA r)
theorem xq (hs : s.length < 4294967281) : ah Tryz.prog 17 [.s s, .s [59]] [] (.x (.c (.own 0))) [.own 9 .str (aZ [] s)] := by
 intro w V vs hw hT hv
 rw [jy hv]
 obtain ⟨m, hm⟩ := j6 hT hw.imm
 have hp := uQ s
 have hl := congrArg List.length hp
 rw [bR] at hl
 have hc : Lib.countB (bs s) ⟨#[59]⟩ + 1 = (aZ [] s).length := by
  rw [← hl]; exact (Lib.splitB_all ⟨#[59]⟩ (by decide) 0 _ (bs s) rfl).symm
 refine (Tryz.strings_Split (bs s) (bs [59]) m w (by rw [dq]; exact hs) hm (by decide)).mono fun e w' ⟨he, hw'⟩ => ?_
 subst he; subst hw'
 have hcells : (Lib.splitB (bs [59]) 0 (Lib.countB (bs s) (bs [59])) (bs s)).map Value.string = (aZ [] s).map fun s => Value.string (bs s) := by
  rw [← hp, List.map_map]
  exact dD fun x _ => by simp [ik]
 have hc' : Lib.countB (bs s) (bs [59]) + 1 = (aZ [] s).length := hc
 rw [hcells, hc']
 have hlen := tf s
 obtain ⟨V2, hag, _, _, e2, hw2⟩ := hw.regrow (ck := []) rfl (bA _) none (c := .own 9 .str (aZ [] s)) (v' := .slice (some ⟨w.heap.size, 0, none⟩) (aZ [] s).length (aZ [] s).length) (s' := w.heap.size) (w' := w.alloc (.cells ((aZ [] s).map fun s => Value.string (bs s)).toArray 9)) (row := none) (by simp) (World.grownBy_alloc w _ none) (fun V' hag hH f1 f2 => by
  have f3 : V'.ov 0 = .slice (some ⟨w.heap.size, 0, none⟩) (aZ [] s).length (aZ [] s).length := f2
  have f4 : V'.σ 0 = w.heap.size := f1
  refine ⟨⟨(aZ [] s).map fun s => Value.string (bs s), ?_, oA _, fun b hb => ?_⟩, fun b hb => ?_⟩
  · rw [f2]
    have := World.ownsRow_lit (base := 0) (size := 1) (e := 9) w ((aZ [] s).map fun s => Value.string (bs s)).toArray (aZ [] s).length (bA _) (by unfold maxLen; omega) (by simp)
    exact this
  · rw [f2] at hb; simp only [Value.ownBlock, aa] at hb; rw [f1, ← hb]
  · right; simp only [Chunk.blk] at hb; rw [f2] at hb; simp only [Value.ownBlock, aa] at hb; omega)
 exact ⟨_, V2, rfl, e2.symm, hw2⟩
def oO : Ent := (17, fun
 | [.c (.pd (.str s)), .c (.pd (.str [59]))], [] => some (some (s.length < 4294967281), .x (.c (.own 0)), [.own 9 .str (aZ [] s)])
 | _, _ => none)
theorem yU : EntOk Tryz.prog oO := entOk fun vs ck => by
 unfold oO; dsimp only; split
 · rename_i s; exact entS fun hp => xq s hp
 · exact entN
end Go.Proofs.YtpfidgnkokidoaaGreatDoor

/- Contracts: names; prefixes. Conditions: none. Contracts: cells, right lists, by the program and the document; lists of cells as trees. Conditions: none. The library's contracts of strconv.FormatInt at base 10, laid at this dump by the kit's tools. Conditions: its table. Contracts: numbers told. Conditions: int64; the library's table. Contracts: names, events' names. Conditions: none. -/
import Derived.Test.YtpfidgnkokidoaaGreatDoorDa
import Derived.Shelf.LaysM
import Derived.Shelf.Strconv.Itoa4
import Derived.Test.YtpfidgnkokidoaaGreatDoorProg
import Derived.Lib.AppendIntMem
namespace Go.Proofs.YtpfidgnkokidoaaGreatDoor
open Go Go.Ev
set_option maxRecDepth 100000
abbrev zNa1 : List PI := [.code [1, 1, 0, 1, 0, 0], .inLoop [1, 1, 0, 1, 0, 0], .inBlock 0, .code [1, 1, 1]]
variable (a b s : Str)
theorem A8 (Γ : Ctx) (h0 : su s = false) : ∀ (n k : Nat), s.length - k ≤ n → k ≤ s.length → (∀ j, j < k → xj (s.getD j 0) = false) →
 J Tryz.prog 20 (aE Tryz.f20) Γ (Eq2 (.x (.b (aP s))) []) zNa1 ({ n := 56, fr := [(0, .p (.str s)), (2, .p (.bool false)), (23, .i (ae s)), (24, .i k)], ck := [], kn := [2] }) := by
 have hlen : s.length ≤ 12 := by simp [su, ae] at h0; omega
 intro n
 induction n with
 | zero => ?_
 | succ n ih => ?_
 all_goals
  intro k hn hk hb
  refine jg bN Tryz.func20 (let x1 := (↑((List.getD s k (0 : UInt8)).toNat) : Int); let x2 : Tree := (.ret (.p (.bool false)) []); .ite (decide ((k : Int) < ae s)) (.need ((0 : Int) ≤ (k : Int) ∧ (k : Int) < ae s) (.ite ((decide (x1 < 97) || decide (x1 > 122)) && (decide (x1 < 48) || decide (x1 > 57)) && x1 != 95) x2 (.stop zNa1 { n := 56, fr := [(0, .p (.str s)), (2, .p (.bool false)), (23, .i (ae s)), (24, .i (IntKind.wrap .i64 ((k : Int) + 1)))], ck := [], kn := [2] }))) (.ite (s == [116, 114, 117, 101]) x2 (.ite (s == [102, 97, 108, 115, 101]) x2 (.ite (s == [105, 110]) x2 (.ite (s == [114, 101]) x2 (.ite (s == [105, 109]) x2 (.ret (.p (.bool true)) []))))))) ?_
  conv => zeta
  have hend : ¬ k < s.length → s.any xj = false := fun h => tj fun j hj => hb j (by omega)
  refine ⟨fun hlt => ⟨?_, fun hbad => ⟨?_, rfl⟩, fun hok => ?_⟩, fun hge => ?_⟩
  · have := of_decide_eq_true hlt; simp only [ae] at this ⊢; omega
  · have := of_decide_eq_true hlt; simp only [ae] at this
    have hbad' : xj (s.getD k 0) = true := hbad
    simp only [aP, Cn (by omega) hbad']; simp
  · have := of_decide_eq_true hlt; simp only [ae] at this
    first
    | (exfalso; omega)
    | (rw [fW (by omega)]
       exact ih (k + 1) (by omega) (by omega) fun j hj => if e : j = k then by rw [e]; exact hok else hb j (by omega))
  · have := of_decide_eq_false hge; simp only [ae] at this
    have hany := hend (by omega)
    refine ⟨fun h1 => ⟨?_, rfl⟩, fun h1 => ⟨fun h2 => ⟨?_, rfl⟩, fun h2 => ⟨fun h3 => ⟨?_, rfl⟩, fun h3 => ⟨fun h4 => ⟨?_, rfl⟩, fun h4 => ⟨fun h5 => ⟨?_, rfl⟩, fun h5 => ⟨?_, rfl⟩⟩⟩⟩⟩⟩ <;>
     simp [aP, h0, hany, Bd, *]
theorem Bn : ah Tryz.prog 20 [.s s] [] (.x (.b (aP s))) [] := by
 refine dg bN Tryz.func20 (let x1 := (↑((List.getD s 0 (0 : UInt8)).toNat) : Int); let x2 := (ae s > (12 : Int)); .need ((s == [] || decide x2) = false → (0 : Int) ≤ 0 ∧ (0 : Int) < ae s) (.need ((s == [] || decide x2 || decide (x1 < 97)) = false → (0 : Int) ≤ 0 ∧ (0 : Int) < ae s) (.ite (s == [] || decide x2 || decide (x1 < 97) || decide (x1 > 122)) (.ret (.p (.bool false)) []) (.stop zNa1 { n := 56, fr := [(0, .p (.str s)), (2, .p (.bool false)), (23, .i (ae s)), (24, .i 0)], ck := [], kn := [2] })))) fun Γ => ?_
 conv => zeta
 have hpos : (s == [] || decide (ae s > 12)) = false → 0 ≤ (0 : Int) ∧ 0 < ae s := by
  intro h
  cases s with
  | nil => simp at h
  | cons c r => simp [ae]
 refine ⟨hpos, fun h => hpos ?_, fun h => ⟨?_, rfl⟩, fun h => ?_⟩
 · simp only [aH] at h ⊢; exact h.1
 · have h' : su s = true := h
   simp [aP, h']
 · exact A8 s _ h s.length 0 (by omega) (by omega) (fun j hj => by omega)
def fe : Ent := (20, fun
 | [.c (.pd (.str s))], [] => some (none, .x (.c (.pd (.bool (aP s)))), [])
 | _, _ => none)
theorem dS : EntOk Tryz.prog fe := entOk fun vs ck => by
 unfold fe; dsimp only; split
 · rename_i s; exact entS fun hp => Bn s
 · exact entN
theorem qq : ah Tryz.prog 135 [.s a, .s b] [] (.x (.b (decide (ae a ≥ ae b) && a.take (ae b).toNat == b))) [] := by
 refine dg bN Tryz.func135 (.need (decide (ae a ≥ ae b) = true → (0 : Int) ≤ ae b ∧ ae b ≤ (a.length : Int)) (.ret (.p (.bool (decide (ae a ≥ ae b) && (aw a none (some (ae b))).2 == b))) [])) fun Γ => ?_
 refine ⟨fun h => ?_, rfl, rfl⟩
 have := of_decide_eq_true h
 have h1 : ae b = (b.length : Int) := rfl
 have h2 : ae a = (a.length : Int) := rfl
 omega
def eHp : Ent := (135, fun
 | [.c (.pd (.str a)), .c (.pd (.str b))], [] => some (none, .x (.c (.pd (.bool (decide (ae a ≥ ae b) && a.take (ae b).toNat == b)))), [])
 | _, _ => none)
theorem Ar : EntOk Tryz.prog eHp := entOk fun vs ck => by
 unfold eHp; dsimp only; split
 · rename_i a b; exact entS fun hp => qq a b
 · exact entN
def DD : Cfg := ⟨bn, [eHp]⟩
theorem BD : ag Tryz.prog DD.tab := (ag.cons Ar ag.nil)
def aY : Bool := decide (ae a ≥ ae b) && a.take (ae b).toNat == b
def bg : Str := bif aY a b then a.drop (ae b).toNat else a
def cw : Bool := aP (bg s [100, 111, 110, 101, 46])
theorem pX : ah Tryz.prog 143 [.s a, .s b] [] (.tup [.s (bg a b), .b (aY a b)]) [] := by
 refine dg BD Tryz.func143 (.ite (!(decide (ae a ≥ ae b) && List.take ((ae b).toNat) a == b)) (.ret (.tup [.p (.str a), .p (.bool false)]) []) (.need ((0 : Int) ≤ ae b ∧ ae b ≤ (a.length : Int)) (.ret (.tup [.p (.str ((aw a (some (ae b)) none).2)), .p (.bool true)]) []))) fun Γ => ?_
 refine ⟨fun h => ⟨?_, rfl⟩, fun h => ⟨?_, ?_, rfl⟩⟩
 · have h' : aY a b = false := by
    have h2 : (!aY a b) = true := h
    simpa using h2
   simp [bg, h']
 · have h' : aY a b = true := by
    have h2 : (!aY a b) = false := h
    simpa using h2
   simp only [aY, af, decide_eq_true_eq] at h'
   have h1 : ae b = (b.length : Int) := rfl
   have h2 : ae a = (a.length : Int) := rfl
   omega
 · have h' : aY a b = true := by
    have h2 : (!aY a b) = false := h
    simpa using h2
   simp [bg, h', aw]
def sd : Ent := (143, fun
 | [.c (.pd (.str a)), .c (.pd (.str b))], [] => some (none, .tup [.c (.pd (.str (bg a b))), .c (.pd (.bool (aY a b)))], [])
 | _, _ => none)
theorem Cq : EntOk Tryz.prog sd := entOk fun vs ck => by
 unfold sd; dsimp only; split
 · rename_i a b; exact entS fun hp => pX a b
 · exact entN
def vT : Cfg := ⟨bn, [sd]⟩
theorem yi : ag Tryz.prog vT.tab := (ag.cons Cq ag.nil)
theorem qx : ah Tryz.prog 114 [.s a, .s b] [] (.tup [.s (bg a b), .b (aY a b)]) [] := by
 refine dg yi Tryz.func114 (.ret (.tup [.p (.str (bg a b)), .p (.bool (aY a b))]) []) fun Γ => ?_
 exact ⟨rfl, rfl⟩
def lQ : Ent := (114, fun
 | [.c (.pd (.str a)), .c (.pd (.str b))], [] => some (none, .tup [.c (.pd (.str (bg a b))), .c (.pd (.bool (aY a b)))], [])
 | _, _ => none)
theorem kC : EntOk Tryz.prog lQ := entOk fun vs ck => by
 unfold lQ; dsimp only; split
 · rename_i a b; exact entS fun hp => qx a b
 · exact entN
def vV : Cfg := ⟨bn, [fe]⟩
theorem xe : ag Tryz.prog vV.tab := (ag.cons dS ag.nil)
theorem xy (op a : Int) (s : Str) : ah Tryz.prog 105 [.agg [.i op, .i a, .pd (.str s)]] [] (.x (.i (eI op a s))) [] := by
 refine dg xe Tryz.func105 (let x1 : Tree := (.ret (.i (-1 : Int)) []); let x2 : Tree := (.ite (a != (0 : Int) || !aP s) x1 (.ret (.i 0) [])); .ite (op == (1 : Int)) (.ite (decide (a < (0 : Int)) || decide (a > (1099511627776 : Int)) || !s == []) x1 (.ret (.i 0) [])) (.ite (op == (2 : Int)) (.ite (decide (a < (0 : Int)) || decide (a > (1048576 : Int)) || !s == []) x1 (.ret (.i 0) [])) (.ite (op == (5 : Int)) x2 (.ite (op == (6 : Int)) x2 (.ite (decide (op < (3 : Int)) || decide (op > (23 : Int)) || a != (0 : Int) || !s == []) x1 (.ite (decide (op ≤ (4 : Int))) (.ret (.i 0) []) (.ite (decide (op ≤ (10 : Int))) (.ret (.i 1) []) (.ret (.i 2) [])))))))) fun Γ => ?_
 conv => zeta
 (repeat' (first | intro h | constructor)) <;> simp only [eI, *, cond_true, cond_false]
def mb : Ent := (105, fun
 | [.agg [.pd (.int .i64 op), .pd (.int .i64 a), .pd (.str s)]], [] => some (none, .x (.c (.pd (.int .i64 (eI op a s)))), [])
 | _, _ => none)
theorem rU : EntOk Tryz.prog mb := entOk fun vs ck => by
 unfold mb; dsimp only; split
 · rename_i op a s; exact entS fun hp => xy op a s
 · exact entN
def oB : Cfg := ⟨bn, [mb]⟩
theorem nD : ag Tryz.prog oB.tab := (ag.cons rU ag.nil)
abbrev zNr1 : List PI := [.code [1, 1, 1, 0, 1, 0, 0], .inLoop [1, 1, 1, 0, 1, 0, 0], .inBlock 0, .code [1, 1, 1, 1]]
theorem wO (l : List Cell) (Γ : Ctx) (hl : l.length ≤ 32) : ∀ (n k : Nat) (m : Int), l.length - k ≤ n → k ≤ l.length → 0 ≤ m → m ≤ k →
 J Tryz.prog 103 (aE Tryz.f103) Γ (Eq2 (.x (.b (kg (l.drop k) m))) []) zNr1 ({ n := 32, fr := [(2, .p (.bool false)), (3, .i m), (10, .p (.lst .cell l)), (11, .i l.length), (12, .i k)], ck := [], kn := [2] }) := by
 intro n
 induction n with
 | zero => ?_
 | succ n ih => ?_
 all_goals
  intro k m hn hk h0 hm
  refine jg nD Tryz.func103 (let x1 := (Cell.name (ETy.get .cell l k)); let x2 := (Cell.op (ETy.get .cell l k)); let x3 := (Cell.a (ETy.get .cell l k)); .ite (decide ((k : Int) < (l.length : Int))) (.need (inRg k l.length) (.ite (decide (eI x2 x3 x1 < (0 : Int)) || decide (eI x2 x3 x1 > m)) (.ret (.p (.bool false)) []) (.stop zNr1 { n := 32, fr := [(2, .p (.bool false)), (3, .i (IntKind.wrap .i64 (m + IntKind.wrap .i64 ((1 : Int) - eI x2 x3 x1)))), (10, .p (.lst .cell l)), (11, .i l.length), (12, .i (IntKind.wrap .i64 ((k : Int) + 1)))], ck := [], kn := [2] }))) (.ret (.p (.bool (m == (1 : Int)))) [])) ?_
  conv => zeta
  refine ⟨fun hlt => ⟨?_, ?_⟩, fun hge => ⟨?_, rfl⟩⟩
  · have := of_decide_eq_true hlt; omega
  · have hk' : k < l.length := by have := of_decide_eq_true hlt; omega
    rw [hO (t := .cell) hk']
    generalize ETy.get .cell l k = c
    refine ⟨fun hb => ⟨?_, rfl⟩, fun hb => ?_⟩
    · have hb' : (decide (bI c < 0) || decide (bI c > m)) = true := hb
      simp only [kg, hb', cond_true]
    · have hb' : (decide (bI c < 0) || decide (bI c > m)) = false := hb
      have hw : 0 ≤ bI c ∧ bI c ≤ m := by
       simp only [aH, decide_eq_false_iff_not] at hb'
       omega
      simp only [kg, hb', cond_false]
      show J Tryz.prog 103 (aE Tryz.f103) Γ _ zNr1 ({ n := 32, fr := [(2, .p (.bool false)), (3, .i (IntKind.wrap .i64 (m + IntKind.wrap .i64 (1 - bI c)))), (10, .p (.lst .cell l)), (11, .i l.length), (12, .i (IntKind.wrap .i64 ((k : Int) + 1)))], ck := [], kn := [2] })
      rw [cg (n := 1 - bI c) (by omega) (by omega), cg (by omega) (by omega), fW (by omega)]
      first
      | (exfalso; omega)
      | exact ih (k + 1) (m + (1 - bI c)) (by omega) (by omega) (by omega) (by omega)
  · rw [gU (by have := of_decide_eq_false hge; omega)]; rfl
theorem xE (l : List Cell) : ah Tryz.prog 103 [.l .cell l] [] (.x (.b (iq l))) [] := by
 refine dg nD Tryz.func103 (.ite (decide ((l.length : Int) > 32)) (.ret (.p (.bool false)) []) (.stop zNr1 { n := 32, fr := [(2, .p (.bool false)), (3, .i 0), (10, .p (.lst .cell l)), (11, .i l.length), (12, .i 0)], ck := [], kn := [2] })) fun Γ => ?_
 refine ⟨fun h => ⟨by simp only [iq, h]; rfl, rfl⟩, fun h => ?_⟩
 have hl : l.length ≤ 32 := by have := of_decide_eq_false h; omega
 simp only [iq, h]
 exact wO l Γ hl l.length 0 0 (by omega) (by omega) (by omega) (by omega)
def mn : Ent := (103, fun
 | [.c (.pd (.lst .cell l))], [] => some (none, .x (.c (.pd (.bool (iq l)))), [])
 | _, _ => none)
theorem rJ : EntOk Tryz.prog mn := entOk fun vs ck => by
 unfold mn; dsimp only; split
 · rename_i l; exact entS fun hp => xE l
 · exact entN
theorem BY (c : Cell) (h : bI c ≥ 0) : (bI c = 0 ∧ c.op < 7) ∨ (bI c = 1 ∧ 7 ≤ c.op ∧ c.op < 11) ∨ (bI c = 2 ∧ 11 ≤ c.op) := by
 revert h
 unfold bI eI
 simp only [cond_eq_ite, beq_iff_eq, aF, decide_eq_true_eq, bne_iff_ne]
 intro h
 (repeat' split at h) <;> (repeat' split) <;> omega
inductive Tm where
 | leaf (c : Cell)
 | un (c : Cell) (t : Tm)
 | bin (c : Cell) (t u : Tm)
def Tm.flat : Tm → List Cell
 | .leaf c => [c]
 | .un c t => t.flat ++ [c]
 | .bin c t u => t.flat ++ u.flat ++ [c]
def Tm.ok : Tm → Prop
 | .leaf c => bI c = 0
 | .un c t => bI c = 1 ∧ t.ok
 | .bin c t u => bI c = 2 ∧ t.ok ∧ u.ok
end Go.Proofs.YtpfidgnkokidoaaGreatDoor
namespace Go.Proofs
open Go.Shelf
def Tryz.laysM173_ren : Go.Shelf.Ren := ⟨fun | 173 => 97 | 246 => 132 | 283 => 172 | 284 => 173 | 285 => 174 | 286 => 175 | 129 => 198 | 317 => 197 | 318 => 199 | 319 => 200 | 320 => 201 | 337 => 213 | 338 => 214 | n => n, fun | 2 => 2 | 3 => 3 | 9 => 9 | 4 => 4 | 171 => 213 | 0 => 0 | 53 => 182 | 37 => 71 | 5 => 5 | 173 => 216 | 212 => 240 | 51 => 179 | 20 => 20 | 213 => 241 | 46 => 145 | 232 => 253 | 233 => 254 | n => n, fun | 17 => 3 | 18 => 6 | 19 => 7 | n => n⟩
theorem Tryz.laysM173 : Go.Proofs.LaysM.n173 Tryz.prog Tryz.laysM173_ren := {
 mixed := by kernel_rfl
 f129 := Tryz.func198.trans (congrArg some (by kernel_rfl))
 f173 := Tryz.func97.trans (congrArg some (by kernel_rfl))
 f246 := Tryz.func132.trans (congrArg some (by kernel_rfl))
 f283 := Tryz.func172.trans (congrArg some (by kernel_rfl))
 f284 := Tryz.func173.trans (congrArg some (by kernel_rfl))
 f285 := Tryz.func174.trans (congrArg some (by kernel_rfl))
 f286 := Tryz.func175.trans (congrArg some (by kernel_rfl))
 f317 := Tryz.func197.trans (congrArg some (by kernel_rfl))
 f318 := Tryz.func199.trans (congrArg some (by kernel_rfl))
 f319 := Tryz.func200.trans (congrArg some (by kernel_rfl))
 f320 := Tryz.func201.trans (congrArg some (by kernel_rfl))
 f337 := Tryz.func213.trans (congrArg some (by kernel_rfl))
 f338 := Tryz.func214.trans (congrArg some (by kernel_rfl))
 t0 := Tryz.underlying0
 a0 := Tryz.isAgg0
 z0 := Tryz.sizeOf0
 v0 := Tryz.zeroValue0
 t2 := Tryz.underlying2
 a2 := Tryz.isAgg2
 z2 := Tryz.sizeOf2
 v2 := Tryz.zeroValue2
 t3 := Tryz.underlying3
 a3 := Tryz.isAgg3
 z3 := Tryz.sizeOf3
 v3 := Tryz.zeroValue3
 t4 := Tryz.underlying4
 a4 := Tryz.isAgg4
 z4 := Tryz.sizeOf4
 v4 := Tryz.zeroValue4
 t5 := Tryz.underlying5
 a5 := Tryz.isAgg5
 z5 := Tryz.sizeOf5
 v5 := Tryz.zeroValue5
 t9 := Tryz.underlying9
 a9 := Tryz.isAgg9
 z9 := Tryz.sizeOf9
 v9 := Tryz.zeroValue9
 t20 := Tryz.underlying20
 a20 := Tryz.isAgg20
 z20 := Tryz.sizeOf20
 v20 := Tryz.zeroValue20
 t37 := Tryz.underlying71
 a37 := Tryz.isAgg71
 z37 := Tryz.sizeOf71
 v37 := Tryz.zeroValue71
 t46 := Tryz.underlying145
 a46 := Tryz.isAgg145
 z46 := Tryz.sizeOf145
 v46 := Tryz.zeroValue145
 t51 := Tryz.underlying179
 a51 := Tryz.isAgg179
 z51 := Tryz.sizeOf179
 v51 := Tryz.zeroValue179
 t53 := Tryz.underlying182
 a53 := Tryz.isAgg182
 z53 := Tryz.sizeOf182
 v53 := Tryz.zeroValue182
 t171 := Tryz.underlying213
 a171 := Tryz.isAgg213
 z171 := Tryz.sizeOf213
 v171 := Tryz.zeroValue213
 t173 := Tryz.underlying216
 a173 := Tryz.isAgg216
 z173 := Tryz.sizeOf216
 v173 := Tryz.zeroValue216
 t212 := Tryz.underlying240
 a212 := Tryz.isAgg240
 z212 := Tryz.sizeOf240
 v212 := Tryz.zeroValue240
 t213 := Tryz.underlying241
 a213 := Tryz.isAgg241
 z213 := Tryz.sizeOf241
 t232 := Tryz.underlying253
 a232 := Tryz.isAgg253
 z232 := Tryz.sizeOf253
 v232 := Tryz.zeroValue253
 t233 := Tryz.underlying254
 a233 := Tryz.isAgg254
 z233 := Tryz.sizeOf254
 v233 := Tryz.zeroValue254
 g17 := by kernel_rfl
 g18 := by kernel_rfl
 g19 := by kernel_rfl
 i0 := by kernel_rfl
 i2 := by kernel_rfl
 i3 := by kernel_rfl
 i4 := by kernel_rfl
 i5 := by kernel_rfl
 i9 := by kernel_rfl
 i20 := by kernel_rfl
 i37 := by kernel_rfl
 i46 := by kernel_rfl
 i51 := by kernel_rfl
 i53 := by kernel_rfl
 i171 := by kernel_rfl
 i173 := by kernel_rfl
 i212 := by kernel_rfl
 i232 := by kernel_rfl
 i233 := by kernel_rfl
 m17 := by kernel_rfl
 m18 := by kernel_rfl
 m19 := by kernel_rfl }
open Go.RowKit Go.Sort Go.Lib in
theorem Tryz.strconv_FormatInt_10 (n : Int) (h0 : -9223372036854775808 ≤ n) (h1 : n ≤ 9223372036854775807) (w : World) (htab : Lib.TabIs Tryz.prog w "internal/strconv.uint64pow10" .u64 Lib.pow10Tab) :
 Calls Tryz.prog 97 #[.int .i64 n, .int .i64 10] w fun e w' => e = .returned (.string ⟨(Lib.itoa n).toArray⟩) ∧ ∃ k os, w' = grow (w.drewN k) os := Any.strconv_FormatInt_10 Tryz.laysM173 n h0 h1 w htab
end Go.Proofs
namespace Go.Proofs.YtpfidgnkokidoaaGreatDoor
open Go Go.Ev Go.RowKit
set_option maxRecDepth 100000
theorem gX {w w' : World} (h : Below w.heap.size w w') : Fr (fun _ => False) w w' := ⟨h.os, h.tape, h.output, h.size, fun k hk _ => h.block k hk⟩
theorem qu (n : Int) (h0 : -9223372036854775808 ≤ n) (h1 : n ≤ 9223372036854775807) : ah Tryz.prog 97 [.i n, .i 10] [] (.x (.s (Lib.itoa n))) [] := by
 intro w V vs hw hT hv
 cases hv with
 | cons a1 hv => cases hv with
   | cons a2 hv =>
     cases hv
     have a1' : PR V.H (.int .i64 n) _ := a1
     have a2' : PR V.H (.int .i64 10) _ := a2
     cases a1'
     cases a2'
     have ht : Lib.TabIs Tryz.prog w "internal/strconv.uint64pow10" .u64 Lib.pow10Tab := (hT.1 (by kernel_rfl)).world hw.imm
     refine (Tryz.strconv_FormatInt_10 n h0 h1 w ht).mono fun e w' ⟨he, k, os, hw'⟩ => ?_
     subst he; subst hw'
     exact ⟨_, V, rfl, .str (Lib.itoa n), hw.kept (gX (Lib.below_grow w.heap.size w (ay _) k os))⟩
def eFi : Ent := (97, fun
 | [.c (.pd (.int .i64 n)), .c (.pd (.int .i64 10))], [] => some (some (-9223372036854775808 ≤ n ∧ n ≤ 9223372036854775807), .x (.c (.pd (.str (Lib.itoa n)))), [])
 | _, _ => none)
theorem Gr : EntOk Tryz.prog eFi := entOk fun vs ck => by
 unfold eFi; dsimp only; split
 · rename_i n; exact entS fun hp => qu n hp.1 hp.2
 · exact entN
end Go.Proofs.YtpfidgnkokidoaaGreatDoor
namespace Go.Proofs.YtpfidgnkokidoaaGreatDoor
open Go Go.Ev
set_option maxRecDepth 100000
def Aa : Cfg := ⟨bn, [lQ, fe]⟩
theorem Ak : ag Tryz.prog Aa.tab := (ag.cons kC (ag.cons dS ag.nil))
theorem wV (s : Str) : ah Tryz.prog 85 [.s s] [] (.x (.b (cw s))) [] := by
 refine dg Ak Tryz.func85 (.ret (.p (.bool (aP (bg s [(100 : UInt8), 111, 110, 101, 46])))) []) fun Γ => ?_
 exact ⟨rfl, rfl⟩
def gg : Ent := (85, fun
 | [.c (.pd (.str s))], [] => some (none, .x (.c (.pd (.bool (cw s)))), [])
 | _, _ => none)
theorem fT : EntOk Tryz.prog gg := entOk fun vs ck => by
 unfold gg; dsimp only; split
 · rename_i s; exact entS fun hp => wV s
 · exact entN
end Go.Proofs.YtpfidgnkokidoaaGreatDoor

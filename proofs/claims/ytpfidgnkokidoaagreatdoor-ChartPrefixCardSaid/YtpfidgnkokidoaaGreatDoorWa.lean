/- Contracts: an action read. Conditions: texts that are not too long. Contracts: blocks read. Conditions: none. Plain laws: what blocks' texts are made of; what is told is read. Conditions: each theorem's own. Plain: a chart's lines, read. Conditions: none. -/
import Derived.Test.YtpfidgnkokidoaaGreatDoorMr
import Derived.Test.YtpfidgnkokidoaaGreatDoorMf
import Derived.Test.YtpfidgnkokidoaaGreatDoorUe
namespace Go.Proofs.YtpfidgnkokidoaaGreatDoor
open Go Go.Ev
set_option maxRecDepth 100000
/-! ### the program's -/
noncomputable def Az : Cfg := ⟨bn, [lQ, gg, oQ, mV, fe, jb]⟩
theorem AO : ag Tryz.prog Az.tab := (ag.cons kC (ag.cons fT (ag.cons tV (ag.cons oy (ag.cons dS (ag.cons kK ag.nil))))))
noncomputable def pc : Cfg := ⟨bn, [lQ, gg, oQ, ng, fe, jb]⟩
theorem l6 : ag Tryz.prog pc.tab := (ag.cons kC (ag.cons fT (ag.cons tV (ag.cons oj (ag.cons dS (ag.cons kK ag.nil))))))
abbrev mw : SC := .pd (.v (.slice none 0 0))
variable (s : Str)
theorem CS (h : aY s bU = true) : ah Tryz.prog 122 [.s s] [] (.tup [.agg [.i 2, .pd (.str (bg s bU)), mw], .b (cM ⟨2, bg s bU, []⟩)]) [] := by
 refine dg l6 Tryz.func122 (let x1 := [(114 : UInt8), 97, 105, 115, 101, 58]; let x2 := [(115 : UInt8), 101, 110, 100, 58]; let x3 := (Value.slice none 0 0); .ite (aY s x1) (.ret (.tup [.agg [.i 2, .pd (.str (bg s x1)), .pd (.v x3)], .p (.bool (cw (bg s x1)))]) []) (.ite (aY s x2) (.ret (.tup [.agg [.i 3, .pd (.str (bg s x2)), .pd (.v x3)], .p (.bool (cw (bg s x2)))]) []) (.need (s.length < 4294967281) (.need (¬bT (bO s)) (.ret (.tup [.agg [.i 1, .pd (.str (dc s)), .pd (.v x3)], .p (.bool (dL s && aP (dc s) && ((aW (bO s)).2).2 == (0 : Int) && gf []))]) []))))) fun Γ => ?_
 conv => zeta
 have hb : cM ⟨2, bg s bU, []⟩ = cw (bg s bU) := by show (cw _ && true) = _; rw [dk]
 rw [hb]
 exact ⟨fun _ => ⟨rfl, rfl⟩, fun h' => absurd h (by rw [show aY s bU = false from h']; simp)⟩
theorem ES (h0 : aY s bU = false) (h : aY s df = true) : ah Tryz.prog 122 [.s s] [] (.tup [.agg [.i 3, .pd (.str (bg s df)), mw], .b (cM ⟨3, bg s df, []⟩)]) [] := by
 refine dg l6 Tryz.func122 (let x1 := [(114 : UInt8), 97, 105, 115, 101, 58]; let x2 := [(115 : UInt8), 101, 110, 100, 58]; let x3 := (Value.slice none 0 0); .ite (aY s x1) (.ret (.tup [.agg [.i 2, .pd (.str (bg s x1)), .pd (.v x3)], .p (.bool (cw (bg s x1)))]) []) (.ite (aY s x2) (.ret (.tup [.agg [.i 3, .pd (.str (bg s x2)), .pd (.v x3)], .p (.bool (cw (bg s x2)))]) []) (.need (s.length < 4294967281) (.need (¬bT (bO s)) (.ret (.tup [.agg [.i 1, .pd (.str (dc s)), .pd (.v x3)], .p (.bool (dL s && aP (dc s) && ((aW (bO s)).2).2 == (0 : Int) && gf []))]) []))))) fun Γ => ?_
 conv => zeta
 have hb : cM ⟨3, bg s df, []⟩ = cw (bg s df) := by show (cw _ && true) = _; rw [dk]
 rw [hb]
 exact ⟨fun h' => absurd (show aY s bU = true from h') (by rw [h0]; simp), fun _ => ⟨fun _ => ⟨rfl, rfl⟩, fun h' => absurd h (by rw [show aY s df = false from h']; simp)⟩⟩
theorem FI (hs : s.length < 4294967281) (h0 : aY s bU = false) (h1 : aY s df = false) (h : bT (bO s)) :
 ah Tryz.prog 122 [.s s] [] (.tup [.agg [.i 1, .pd (.str (dc s)), .own 0], .b (dL s && cM ⟨1, dc s, (aW (bO s)).1⟩)]) [.own 92 .cell (aW (bO s)).1] := by
 refine dg AO Tryz.func122 (let x1 := [(114 : UInt8), 97, 105, 115, 101, 58]; let x2 := [(115 : UInt8), 101, 110, 100, 58]; .ite (aY s x1) (.ret (.tup [.agg [.i 2, .pd (.str (bg s x1)), .pd (.v (Value.slice none 0 0))], .p (.bool (cw (bg s x1)))]) []) (.ite (aY s x2) (.ret (.tup [.agg [.i 3, .pd (.str (bg s x2)), .pd (.v (Value.slice none 0 0))], .p (.bool (cw (bg s x2)))]) []) (.need (s.length < 4294967281) (.need (bT (bO s)) (.ret (.tup [.agg [.i 1, .pd (.str (dc s)), .own 0], .p (.bool (dL s && aP (dc s) && (0 : Int) == 0 && gf ((aW (bO s)).1)))]) [.own 92 .cell ((aW (bO s)).1)]))))) fun Γ => ?_
 conv => zeta
 refine ⟨fun h' => absurd (show aY s bU = true from h') (by rw [h0]; simp), fun _ => ⟨fun h' => absurd (show aY s df = true from h') (by rw [h1]; simp), fun _ => ⟨hs, h, ?_, rfl⟩⟩⟩
 have hb : (dL s && cM ⟨1, dc s, (aW (bO s)).1⟩) = (dL s && aP (dc s) && (0 : Int) == 0 && gf (aW (bO s)).1) := by
  show (dL s && (aP (dc s) && gf (aW (bO s)).1)) = _
  rw [show ((0 : Int) == 0) = true from rfl, dk, Bool.and_assoc]
 rw [hb]
theorem EC (hs : s.length < 4294967281) (h0 : aY s bU = false) (h1 : aY s df = false) (h : ¬ bT (bO s)) :
 ah Tryz.prog 122 [.s s] [] (.tup [.agg [.i 1, .pd (.str (dc s)), mw], .b false]) [] := by
 refine dg l6 Tryz.func122 (let x1 := [(114 : UInt8), 97, 105, 115, 101, 58]; let x2 := [(115 : UInt8), 101, 110, 100, 58]; let x3 := (Value.slice none 0 0); .ite (aY s x1) (.ret (.tup [.agg [.i 2, .pd (.str (bg s x1)), .pd (.v x3)], .p (.bool (cw (bg s x1)))]) []) (.ite (aY s x2) (.ret (.tup [.agg [.i 3, .pd (.str (bg s x2)), .pd (.v x3)], .p (.bool (cw (bg s x2)))]) []) (.need (s.length < 4294967281) (.need (¬bT (bO s)) (.ret (.tup [.agg [.i 1, .pd (.str (dc s)), .pd (.v x3)], .p (.bool (dL s && aP (dc s) && ((aW (bO s)).2).2 == (0 : Int) && gf []))]) []))))) fun Γ => ?_
 conv => zeta
 refine ⟨fun h' => absurd (show aY s bU = true from h') (by rw [h0]; simp), fun _ => ⟨fun h' => absurd (show aY s df = true from h') (by rw [h1]; simp), fun _ => ⟨hs, h, ?_, rfl⟩⟩⟩
 have h9 : ¬ (aW (bO s)).2.2 = 0 := h
 have : ((aW (bO s)).2.2 == 0) = false := by simpa using h9
 rw [this, dx, Bool.false_and]
noncomputable def wX : Ent := (122, fun
 | [.c (.pd (.str s))], [] => some (some (aY s bU = true), .tup [.agg [.pd (.int .i64 2), .pd (.str (bg s bU)), .pd (.v (.slice none 0 0))], .c (.pd (.bool (cM ⟨2, bg s bU, []⟩)))], [])
 | _, _ => none)
theorem Er : EntOk Tryz.prog wX := entOk fun vs ck => by
 unfold wX; dsimp only; split
 · rename_i s; exact entS fun hp => CS s hp
 · exact entN
noncomputable def ya : Ent := (122, fun
 | [.c (.pd (.str s))], [] => some (some (aY s bU = false ∧ aY s df = true), .tup [.agg [.pd (.int .i64 3), .pd (.str (bg s df)), .pd (.v (.slice none 0 0))], .c (.pd (.bool (cM ⟨3, bg s df, []⟩)))], [])
 | _, _ => none)
theorem EU : EntOk Tryz.prog ya := entOk fun vs ck => by
 unfold ya; dsimp only; split
 · rename_i s; exact entS fun hp => ES s hp.1 hp.2
 · exact entN
noncomputable def yj : Ent := (122, fun
 | [.c (.pd (.str s))], [] => some (some (s.length < 4294967281 ∧ aY s bU = false ∧ aY s df = false ∧ bT (bO s)), .tup [.agg [.pd (.int .i64 1), .pd (.str (dc s)), .own 0], .c (.pd (.bool (dL s && cM ⟨1, dc s, (aW (bO s)).1⟩)))], [.own 92 .cell (aW (bO s)).1])
 | _, _ => none)
theorem ER : EntOk Tryz.prog yj := entOk fun vs ck => by
 unfold yj; dsimp only; split
 · rename_i s; exact entS fun hp => FI s hp.1 hp.2.1 hp.2.2.1 hp.2.2.2
 · exact entN
noncomputable def xt : Ent := (122, fun
 | [.c (.pd (.str s))], [] => some (some (s.length < 4294967281 ∧ aY s bU = false ∧ aY s df = false ∧ ¬ bT (bO s)), .tup [.agg [.pd (.int .i64 1), .pd (.str (dc s)), .pd (.v (.slice none 0 0))], .c (.pd (.bool false))], [])
 | _, _ => none)
theorem EP : EntOk Tryz.prog xt := entOk fun vs ck => by
 unfold xt; dsimp only; split
 · rename_i s; exact entS fun hp => EC s hp.1 hp.2.1 hp.2.2.1 hp.2.2.2
 · exact entN
/-! ### the document's -/
end Go.Proofs.YtpfidgnkokidoaaGreatDoor
namespace Go.Proofs.YtpfidgnkokidoaaGreatDoor
open Go Go.Ev
set_option maxRecDepth 100000
open Classical in
noncomputable def fL (s : Str) : Option Deed :=
 if aY s bU = true then (if cM ⟨2, bg s bU, []⟩ = true then some ⟨2, bg s bU, []⟩ else none)
 else if aY s df = true then (if cM ⟨3, bg s df, []⟩ = true then some ⟨3, bg s df, []⟩ else none)
 else if dL s = true ∧ bT (bO s) ∧ cM ⟨1, dc s, (aW (bO s)).1⟩ = true then some ⟨1, dc s, (aW (bO s)).1⟩ else none
noncomputable def readAll : List Str → Option (List Deed)
 | [] => some []
 | p :: r => match fL p, readAll r with
   | some d, some l => some (d :: l)
   | _, _ => none
noncomputable def aK (s : Str) : List Deed × Int :=
 if ae s > 6000 then ([], 4) else if (aZ [] s).length > 8 then ([], 4) else match readAll (aZ [] s) with
  | some l => (l, 0)
  | none => ([], 1)
def aR (s : Str) : Prop := (aK s).2 = 0
theorem rM {s : Str} (c2 : aY s bU = false) (c3 : aY s df = false) (h : ¬ (dL s = true ∧ bT (bO s) ∧ cM ⟨1, dc s, (aW (bO s)).1⟩ = true)) : fL s = none := by
 rw [fL, if_neg (by rw [c2]; simp), if_neg (by rw [c3]; simp), if_neg h]
theorem AT {s : Str} (c2 : aY s bU = false) (c3 : aY s df = false) (h1 : dL s = true) (h2 : bT (bO s)) (h3 : cM ⟨1, dc s, (aW (bO s)).1⟩ = true) : fL s = some ⟨1, dc s, (aW (bO s)).1⟩ := by
 rw [fL, if_neg (by rw [c2]; simp), if_neg (by rw [c3]; simp), if_pos ⟨h1, h2, h3⟩]
def BQ (s : Str) : Out := fun v ck => (aR s → v = .tup [.c (.own 0), .i 0] ∧ ck = [.own 90 .deed (aK s).1]) ∧ (¬ aR s → v = .tup [.c mw, .i (aK s).2] ∧ ck = [])
theorem pJ {s : Str} (h1 : ¬ ae s > 6000) (h2 : ¬ (aZ [] s).length > 8) : aK s = match readAll (aZ [] s) with | some l => (l, 0) | none => ([], 1) := by
 rw [aK, if_neg h1, if_neg h2]
theorem yV {s : Str} (h1 : ¬ ae s > 6000) (h2 : ¬ (aZ [] s).length > 8) : aR s ↔ (readAll (aZ [] s)).isSome = true := by
 unfold aR
 rw [pJ h1 h2]
 cases readAll (aZ [] s) <;> simp
theorem E4 {s : Str} {ps : List Str} {l : List Deed} (hv : aK s = match readAll ps with | some l => (l, 0) | none => ([], 1)) (h : readAll ps = some l) : BQ s (.tup [.c (.own 0), .i 0]) [.own 90 .deed l] := by
 rw [h] at hv
 refine ⟨fun _ => ⟨rfl, by rw [hv]⟩, fun hn => absurd ?_ hn⟩
 show (aK s).2 = 0; rw [hv]
theorem EO {s : Str} {ps : List Str} (hv : aK s = match readAll ps with | some l => (l, 0) | none => ([], 1)) (h : readAll ps = none) : BQ s (.tup [.c mw, .i 1]) [] := by
 rw [h] at hv
 refine ⟨fun hn => ?_, fun _ => ⟨by rw [hv], rfl⟩⟩
 have : (aK s).2 = 0 := hn
 rw [hv] at this; exact absurd this (by decide)
theorem vN {s : Str} (h : ae s > 6000 ∨ (aZ [] s).length > 8) : BQ s (.tup [.c mw, .i 4]) [] := by
 have hv : aK s = ([], 4) := by
  unfold aK
  by_cases h1 : ae s > 6000
  · rw [if_pos h1]
  · rw [if_neg h1, if_pos (h.resolve_left h1)]
 refine ⟨fun hn => ?_, fun _ => ⟨by rw [hv], rfl⟩⟩
 have : (aK s).2 = 0 := hn
 rw [hv] at this; exact absurd this (by decide)
theorem lV : ∀ (s cur : Str), ∀ p ∈ aZ cur s, p.length ≤ cur.length + s.length
 | [], cur, p, h => by simp [aZ] at h; subst h; simp
 | c :: r, cur, p, h => by
   rw [aZ] at h
   cases hc : c == 59
   · rw [hc, cond_false] at h
     have := lV r (cur ++ [c]) p h
     simp only [List.length_append, List.length_cons, List.length_nil] at this ⊢; omega
   · rw [hc, cond_true] at h
     rcases List.mem_cons.1 h with rfl | h
     · simp
     · have := lV r [] p h
       simp only [List.length_nil, List.length_cons] at this ⊢; omega
/-! ### the program's -/
def Du : Cfg := ⟨bn, [oO]⟩
theorem Bt : ag Tryz.prog Du.tab := (ag.cons yU ag.nil)
noncomputable def wF : Cfg := ⟨bn, [wX]⟩
theorem tX : ag Tryz.prog wF.tab := (ag.cons Er ag.nil)
noncomputable def DG : Cfg := ⟨bn, [ya]⟩
theorem C1 : ag Tryz.prog DG.tab := (ag.cons EU ag.nil)
noncomputable def Dp : Cfg := ⟨bn, [yj]⟩
theorem Db : ag Tryz.prog Dp.tab := (ag.cons ER ag.nil)
noncomputable def Dz : Cfg := ⟨bn, [xt]⟩
theorem CF : ag Tryz.prog Dz.tab := (ag.cons EP ag.nil)
abbrev zUh1 : List PI := [.code [1, 1, 1, 1, 1, 0, 1, 0, 0], .inLoop [1, 1, 1, 1, 1, 0, 1, 0, 0], .inBlock 0, .code [1, 1, 1, 1, 1, 1]]
theorem DT (s : Str) (Γ : Ctx) (hs : ¬ ae s > 6000) (h8 : (aZ [] s).length ≤ 8) : ∀ (n k : Nat) (out : List Deed), (aZ [] s).length - k ≤ n → k ≤ (aZ [] s).length → out.length = k → readAll (aZ [] s) = (readAll ((aZ [] s).drop k)).map (out ++ ·) →
 J Tryz.prog 87 (aE Tryz.f87) Γ (BQ s) zUh1 ({ n := 37, fr := [(2, .p (.v (Value.slice none 0 0))), (3, .i 0), (5, .x (.c (.own 1))), (18, .x (.c (.own 0))), (19, .i (((aZ [] s).length : Int))), (20, .i k)], ck := [.own 9 .str (aZ [] s), .own 90 .deed out] }) := by
 have hpl : ∀ p ∈ aZ [] s, p.length ≤ 6000 := fun p hp => by
  have := lV s [] p hp
  have hL : ae s = (s.length : Int) := rfl
  simp only [List.length_nil] at this; omega
 have hq : aR s ↔ (readAll (aZ [] s)).isSome = true := yV hs (by omega)
 have hv := pJ hs (show ¬ (aZ [] s).length > 8 by omega)
 generalize aZ [] s = ps at *
 intro n
 induction n with
 | zero => ?_
 | succ n ih => ?_
 all_goals
  intro k out hn hk ho hall
  by_cases hk' : k < ps.length
  · have hget := ETy.getElem?_get (t := .str) hk'
    have hp1 := hpl _ (List.mem_of_getElem? hget)
    have hdk : readAll (ps.drop k) = (match fL (ETy.get .str ps k), readAll (ps.drop (k + 1)) with | some d, some l => some (d :: l) | _, _ => none) := by rw [hO (t := .str) hk']; rfl
    have hno : fL (ETy.get .str ps k) = none → BQ s (.tup [.c mw, .i 1]) [] := fun hx => by
     have h1 : readAll ps = none := by rw [hall, hdk, hx]; rfl
     exact EO hv h1
    have hroom : ∀ d : Deed, room (out ++ [d]).length 48 := fun d => by rw [List.length_append]; unfold room maxLen; simp only [List.length_cons, List.length_nil]; omega
    have next : ∀ d, fL (ETy.get .str ps k) = some d → J Tryz.prog 87 (aE Tryz.f87) Γ (BQ s) zUh1 ({ n := 37, fr := [(2, .p (.v (Value.slice none 0 0))), (3, .i 0), (5, .x (.c (.own 1))), (18, .x (.c (.own 0))), (19, .i ((ps.length : Int))), (20, .i (((k + 1 : Nat) : Int)))], ck := [.own 9 .str ps, .own 90 .deed (out ++ [d])] }) := fun d hd => by
     first
     | (exfalso; omega)
     | exact ih (k + 1) (out ++ [d]) (by omega) (by omega) (by simp; omega) (by
        rw [hall, hdk, hd]
        cases readAll (ps.drop (k + 1)) <;> simp)
    have hw : IntKind.wrap .i64 ((k : Int) + 1) = ((k + 1 : Nat) : Int) := fW (by omega)
    have hlt : decide ((k : Int) < (ps.length : Int)) = true := decide_eq_true (by omega)
    cases c2 : aY (ETy.get .str ps k) bU
    · cases c3 : aY (ETy.get .str ps k) df
      · by_cases c1 : bT (bO (ETy.get .str ps k))
        · refine jg Db Tryz.func87 (let x1 : Deed := { kind := (1 : Int), name := dc (ETy.get .str ps k), expr := Prod.fst (aW (bO (ETy.get .str ps k))) }; .ite (decide ((k : Int) < (ps.length : Int))) (.need (inRg k ps.length) (.need (k < ps.length) (.need (List.length (ETy.get .str ps k) < 4294967281 ∧ aY (ETy.get .str ps k) bU = false ∧ aY (ETy.get .str ps k) df = false ∧ bT (bO (ETy.get .str ps k))) (.ite (!(dL (ETy.get .str ps k) && cM x1)) (.ret (.tup [.p (.v (Value.slice none 0 0)), .i 1]) []) (.need (room (List.length (out ++ [x1])) 48) (.stop zUh1 { n := 37, fr := [(2, .p (.v (Value.slice none 0 0))), (3, .i 0), (5, .x (.c (.own 1))), (18, .x (.c (.own 0))), (19, .i ps.length), (20, .i (IntKind.wrap .i64 ((k : Int) + 1)))], ck := [.own 9 .str ps, .own 90 .deed (out ++ [x1])] })))))) (.ret (.tup [.c (.own 0), .i 0]) [.own 90 .deed out])) ?_
          conv => zeta
          rw [hlt, hw]
          generalize ETy.get .str ps k = p at *
          refine ⟨fun _ => ⟨by omega, hk', ⟨by omega, c2, c3, c1⟩, fun hb => hno ?_, fun hb => ⟨hroom _, next _ ?_⟩⟩, fun x => Bool.noConfusion x⟩
          · exact rM c2 c3 (fun ⟨g1, g2, g3⟩ => by
             have hb' := nt hb
             rw [g1, g3] at hb'; cases hb')
          · have hb' := nf hb
            rw [Bool.and_eq_true] at hb'
            exact AT c2 c3 hb'.1 c1 hb'.2
        · refine jg CF Tryz.func87 (.ite (decide ((k : Int) < (ps.length : Int))) (.need (inRg k ps.length) (.need (k < ps.length) (.need (List.length (ETy.get .str ps k) < 4294967281 ∧ aY (ETy.get .str ps k) bU = false ∧ aY (ETy.get .str ps k) df = false ∧ ¬bT (bO (ETy.get .str ps k))) (.ite true (.ret (.tup [.p (.v (Value.slice none 0 0)), .i 1]) []) (.need (room (List.length (out ++ [{ kind := (1 : Int), name := dc (ETy.get .str ps k), expr := [] }])) 48) (.stop zUh1 { n := 37, fr := [(2, .p (.v (Value.slice none 0 0))), (3, .i 0), (5, .x (.c (.own 1))), (18, .x (.c (.own 0))), (19, .i ps.length), (20, .i (IntKind.wrap .i64 ((k : Int) + 1)))], ck := [.own 9 .str ps, .own 90 .deed (out ++ [{ kind := (1 : Int), name := dc (ETy.get .str ps k), expr := [] }])] })))))) (.ret (.tup [.c (.own 0), .i 0]) [.own 90 .deed out])) ?_
          rw [hlt]
          generalize ETy.get .str ps k = p at *
          refine ⟨fun _ => ⟨by omega, hk', ⟨by omega, c2, c3, c1⟩, fun _ => hno ?_, fun x => Bool.noConfusion x⟩, fun x => Bool.noConfusion x⟩
          exact rM c2 c3 (fun ⟨g1, g2, g3⟩ => c1 (g2))
      · refine jg C1 Tryz.func87 (let x1 : Deed := { kind := (3 : Int), name := bg (ETy.get .str ps k) df, expr := [] }; .ite (decide ((k : Int) < (ps.length : Int))) (.need (inRg k ps.length) (.need (k < ps.length) (.need (aY (ETy.get .str ps k) bU = false ∧ aY (ETy.get .str ps k) df = true) (.ite (!cM x1) (.ret (.tup [.p (.v (Value.slice none 0 0)), .i 1]) []) (.need (room (List.length (out ++ [x1])) 48) (.stop zUh1 { n := 37, fr := [(2, .p (.v (Value.slice none 0 0))), (3, .i 0), (5, .x (.c (.own 1))), (18, .x (.c (.own 0))), (19, .i ps.length), (20, .i (IntKind.wrap .i64 ((k : Int) + 1)))], ck := [.own 9 .str ps, .own 90 .deed (out ++ [x1])] })))))) (.ret (.tup [.c (.own 0), .i 0]) [.own 90 .deed out])) ?_
        conv => zeta
        rw [hlt, hw]
        generalize ETy.get .str ps k = p at *
        refine ⟨fun _ => ⟨by omega, hk', ⟨c2, c3⟩, fun hb => hno ?_, fun hb => ⟨hroom _, next _ ?_⟩⟩, fun x => Bool.noConfusion x⟩
        · have hb' := nt hb
          simp only [fL, c2, c3, hb', Bool.false_eq_true, if_false, if_true]
        · have hb' := nf hb
          simp only [fL, c2, c3, hb', Bool.false_eq_true, if_false, if_true]
    · refine jg tX Tryz.func87 (let x1 : Deed := { kind := (2 : Int), name := bg (ETy.get .str ps k) bU, expr := [] }; .ite (decide ((k : Int) < (ps.length : Int))) (.need (inRg k ps.length) (.need (k < ps.length) (.need (aY (ETy.get .str ps k) bU = true) (.ite (!cM x1) (.ret (.tup [.p (.v (Value.slice none 0 0)), .i 1]) []) (.need (room (List.length (out ++ [x1])) 48) (.stop zUh1 { n := 37, fr := [(2, .p (.v (Value.slice none 0 0))), (3, .i 0), (5, .x (.c (.own 1))), (18, .x (.c (.own 0))), (19, .i ps.length), (20, .i (IntKind.wrap .i64 ((k : Int) + 1)))], ck := [.own 9 .str ps, .own 90 .deed (out ++ [x1])] })))))) (.ret (.tup [.c (.own 0), .i 0]) [.own 90 .deed out])) ?_
      conv => zeta
      rw [hlt, hw]
      generalize ETy.get .str ps k = p at *
      refine ⟨fun _ => ⟨by omega, hk', c2, fun hb => hno ?_, fun hb => ⟨hroom _, next _ ?_⟩⟩, fun x => Bool.noConfusion x⟩
      · have hb' := nt hb
        simp only [fL, c2, hb', Bool.false_eq_true, if_false, if_true]
      · have hb' := nf hb
        simp only [fL, c2, hb', Bool.false_eq_true, if_false, if_true]
  · refine jg tX Tryz.func87 (let x1 : Deed := { kind := (2 : Int), name := bg (ETy.get .str ps k) bU, expr := [] }; .ite (decide ((k : Int) < (ps.length : Int))) (.need (inRg k ps.length) (.need (k < ps.length) (.need (aY (ETy.get .str ps k) bU = true) (.ite (!cM x1) (.ret (.tup [.p (.v (Value.slice none 0 0)), .i 1]) []) (.need (room (List.length (out ++ [x1])) 48) (.stop zUh1 { n := 37, fr := [(2, .p (.v (Value.slice none 0 0))), (3, .i 0), (5, .x (.c (.own 1))), (18, .x (.c (.own 0))), (19, .i ps.length), (20, .i (IntKind.wrap .i64 ((k : Int) + 1)))], ck := [.own 9 .str ps, .own 90 .deed (out ++ [x1])] })))))) (.ret (.tup [.c (.own 0), .i 0]) [.own 90 .deed out])) ?_
    conv => zeta
    rw [show decide ((k : Int) < (ps.length : Int)) = false from decide_eq_false (by omega)]
    refine ⟨fun x => Bool.noConfusion x, fun _ => ?_⟩
    rw [gU (l := ps) (by omega)] at hall
    exact E4 hv (by rw [hall]; simp [readAll])
theorem tv (s : Str) (Γ : Ctx) : J Tryz.prog 87 (aE Tryz.f87) Γ (BQ s) [.code []] (b6 Tryz.f87.ntmps [.s s] []) := by
 refine jg Bt Tryz.func87 (.ite (decide (ae s > (6000 : Int))) (.ret (.tup [.p (.v (Value.slice none 0 0)), .i 4]) []) (.need (s.length < 4294967281) (.ite (decide ((↑(List.length (aZ [] s)) : Int) > 8)) (.ret (.tup [.p (.v (Value.slice none 0 0)), .i 4]) []) (.stop zUh1 { n := 37, fr := [(2, .p (.v (Value.slice none 0 0))), (3, .i 0), (5, .p (.v (Value.slice none 0 0))), (18, .x (.c (.own 0))), (19, .i (↑(List.length (aZ [] s)) : Int)), (20, .i 0)], ck := [.own 9 .str (aZ [] s)] })))) ?_
 have hL : ae s = (s.length : Int) := rfl
 refine ⟨fun h => vN (.inl (of_decide_eq_true h)), fun h => ?_⟩
 have hs : ¬ ae s > 6000 := of_decide_eq_false h
 refine ⟨by omega, fun h8 => vN (.inr (by have := of_decide_eq_true h8; omega)), fun h8 => ?_⟩
 have h8' : (aZ [] s).length ≤ 8 := by have := of_decide_eq_false h8; omega
 refine J.nilOwn 5 90 .deed rfl (by kernel_rfl) ?_
 exact DT s Γ hs h8' (aZ [] s).length 0 [] (by omega) (by omega) rfl (by simp)
theorem AP (s : Str) (h : aR s) : ah Tryz.prog 87 [.s s] [] (.tup [.c (.own 0), .i 0]) [.own 90 .deed (aK s).1] :=
 ah.of Tryz.func87 (by kernel_rfl) (by kernel_rfl) fun Γ => J.mono (fun v ck hq => hq.1 h) (tv s Γ)
theorem yh (s : Str) (h : ¬ aR s) : ah Tryz.prog 87 [.s s] [] (.tup [.c mw, .i (aK s).2]) [] :=
 ah.of Tryz.func87 (by kernel_rfl) (by kernel_rfl) fun Γ => J.mono (fun v ck hq => hq.2 h) (tv s Γ)
noncomputable def qt : Ent := (87, fun
 | [.c (.pd (.str s))], [] => some (some (aR s), .tup [.c (.own 0), .c (.pd (.int .i64 0))], [.own 90 .deed (aK s).1])
 | _, _ => none)
theorem qC : EntOk Tryz.prog qt := entOk fun vs ck => by
 unfold qt; dsimp only; split
 · rename_i s; exact entS fun hp => AP s hp
 · exact entN
noncomputable def qA : Ent := (87, fun
 | [.c (.pd (.str s))], [] => some (some (¬ aR s), .tup [.c (.pd (.v (.slice none 0 0))), .c (.pd (.int .i64 (aK s).2))], [])
 | _, _ => none)
theorem ql : EntOk Tryz.prog qA := entOk fun vs ck => by
 unfold qA; dsimp only; split
 · rename_i s; exact entS fun hp => yh s hp
 · exact entN
end Go.Proofs.YtpfidgnkokidoaaGreatDoor
namespace Go.Proofs.YtpfidgnkokidoaaGreatDoor
open Go Go.Ev
set_option maxRecDepth 100000
/-! ### signs -/
theorem De {α : Type} {p q : α → Bool} {l : List α} (h : l.all p = true) (hpq : ∀ x, p x = true → q x = true) : l.all q = true :=
 ai.2 fun x hx => hpq x (ai.1 h x hx)
/-! ### told, and read -/
abbrev Bl : Str := [99, 104, 97, 114, 116]
abbrev lI : Str := [101, 118, 101, 110, 116]
abbrev tT : Str := [105, 110, 116]
abbrev oI : Str := [98, 111, 111, 108]
abbrev l5 : Str := [112, 111, 105, 110, 116]
abbrev mz : Str := [98, 97, 115, 105, 99]
abbrev o1 : Str := [98, 111, 116, 104]
abbrev lS : Str := [102, 105, 110, 97, 108]
abbrev sM : Str := [111, 110, 101]
abbrev js : Str := [115, 104, 97, 108, 108, 111, 119]
abbrev oH : Str := [100, 101, 101, 112]
abbrev l9 : Str := [101, 110, 116, 114, 121]
abbrev pF : Str := [101, 120, 105, 116]
abbrev wOn : Str := [111, 110]
variable (c : Chart) (d : Int) (w : List Str)
def dF (n : Int) : Bool := d == 0 && (c.states.length : Int) == 0 && (w.length : Int) == n && aP (ETy.get .str w 0)
def ar (k : Nat) : Str := ETy.get .str w k
def iz : Option Chart := if dF c d w 1 = true then some { c with events := c.events ++ [ar w 0] } else none
def Hc : Var := ⟨ar w 0, 1, (a7 (ar w 1)).1, (a7 (ar w 2)).1, ⟨1, (a7 (ar w 3)).1, 0⟩⟩
def lF : Option Chart :=
 if dF c d w 4 = true ∧ (a7 (ar w 1)).2 = 0 ∧ (a7 (ar w 2)).2 = 0 ∧ (a7 (ar w 3)).2 = 0 then some { c with vars := c.vars ++ [Hc w] } else none
def jF : Option Chart :=
 if dF c d w 2 = true ∧ (ar w 1 = fM ∨ ar w 1 = gl) then some { c with vars := c.vars ++ [⟨ar w 0, 2, 0, 1, ⟨2, if ar w 1 = fM then 1 else 0, 0⟩⟩] } else none
def gr : Int := match c.states.getLast? with | some s => s.depth + 1 | none => 0
def aD (kind : Int) (n : Nat) (c : Chart) (d : Int) (w : List Str) : Option Chart :=
 if d ≤ gr c ∧ w.length = n ∧ aP (ar w 0) = true ∧ aP (ar w (n - 1)) = true then some { c with states := c.states ++ [⟨ar w 0, kind, d, if n = 2 then ar w 1 else [], [], []⟩] } else none
def cW : Bool := match c.states.getLast? with | some s => d == s.depth + 1 | none => false
def dash : Str := [45]
open Classical in
noncomputable def gk : Option Chart := match c.states.getLast? with
 | some s => if d = s.depth + 1 ∧ w.length = 1 ∧ s.entry = [] ∧ aR (ar w 0) then some { c with states := c.states.dropLast ++ [{ s with entry := (aK (ar w 0)).1 }] } else none
 | none => none
open Classical in
noncomputable def hU : Option Chart := match c.states.getLast? with
 | some s => if d = s.depth + 1 ∧ w.length = 1 ∧ s.leave = [] ∧ aR (ar w 0) then some { c with states := c.states.dropLast ++ [{ s with leave := (aK (ar w 0)).1 }] } else none
 | none => none
open Classical in
noncomputable def onC : Option Chart :=
 if cW c d = true ∧ w.length = 4 ∧ (ar w 0 = dash ∨ cw (ar w 0) = true) ∧ (ar w 1 = dash ∨ bT (ar w 1)) ∧ (ar w 2 = dash ∨ aP (ar w 2) = true) ∧ (ar w 3 = dash ∨ aR (ar w 3)) then
  some { c with trans := c.trans ++ [⟨(c.states.length : Int) - 1, if ar w 0 = dash then [] else ar w 0, if ar w 1 = dash then [] else (aW (ar w 1)).1, if ar w 2 = dash then [] else ar w 2, if ar w 3 = dash then [] else (aK (ar w 3)).1⟩] } else none
end Go.Proofs.YtpfidgnkokidoaaGreatDoor

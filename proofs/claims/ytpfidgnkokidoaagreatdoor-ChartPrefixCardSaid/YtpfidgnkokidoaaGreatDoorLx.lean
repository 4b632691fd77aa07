/- Plain: texts cut behind a line; the first fault. Conditions: none. Plain: what is read is small. Conditions: none. Contracts: the document's points read. Conditions: sizes. Contracts: the document's reader of charts: states. Conditions: sizes. Contracts: the document's reader of charts: a head's lines. Conditions: sizes. Contracts: a chart told by the program. Conditions: sizes. Contracts: the layer's example, copies; charts without parts alike. Conditions: each one's own. Contracts: the laws ChartParses, ChartPrefix, ChartNormal, ChartBack. Conditions: each one's own. From a call's contract to a law's row: arguments opened, the row shut. Conditions: each theorem's own. From a row that lists the library's tables to what the walks ask; a world for the witness. Conditions: none. -/
import Derived.Test.YtpfidgnkokidoaaGreatDoorShelfi
import Derived.Test.YtpfidgnkokidoaaGreatDoorUe
import Derived.Test.YtpfidgnkokidoaaGreatDoorWm
import Derived.Test.YtpfidgnkokidoaaGreatDoorXb
import Derived.Test.YtpfidgnkokidoaaGreatDoorWh
import Derived.Test.YtpfidgnkokidoaaGreatDoorYw
import Derived.Test.YtpfidgnkokidoaaGreatDoorWp
import Derived.Test.YtpfidgnkokidoaaGreatDoorWa
import Derived.Test.YtpfidgnkokidoaaGreatDoorMr
import Derived.Test.YtpfidgnkokidoaaGreatDoorMf
import Derived.Test.YtpfidgnkokidoaaGreatDoorWo
import Derived.Test.YtpfidgnkokidoaaGreatDoorWj
import Derived.Test.YtpfidgnkokidoaaGreatDoorWr
import Derived.Test.YtpfidgnkokidoaaGreatDoorOb
import Derived.Test.YtpfidgnkokidoaaGreatDoorPX
import Derived.ProofKit
import Derived.Deep.Slices
import Derived.SizedLaws
import Derived.Test.YtpfidgnkokidoaaGreatDoorCards
import Derived.Test.YtpfidgnkokidoaaGreatDoorTie
import Derived.Deep.DeepHandedRow
import Derived.Lib.LaidTab
import Derived.LaidSub
import Derived.Stop.LaidErr
import Derived.MakeChecks
import Derived.Shelf.Vars
namespace Go.Proofs.YtpfidgnkokidoaaGreatDoor
open Go Go.Ev
set_option maxRecDepth 100000
theorem jj : ∀ (a cur b : Str), cf cur (a ++ 10 :: b) = cf cur a ++ cf [] b
 | [], cur, b => by simp [cf]
 | c :: r, cur, b => by
   rw [bE, cf, cf]
   cases h : c == 10
   · rw [cond_false, cond_false]; exact jj r _ b
   · rw [cond_true, cond_true, jj r [] b]; rfl
theorem BJ (t : Str) : fA (t ++ [10]) = t := by
 unfold fA nd; simp
theorem pO (s : Str) : (∃ t, s = t ++ [10] ∧ fA s = t) ∨ fA s = s := by
 cases h : nd s
 · exact .inr (by unfold fA; rw [if_neg (by rw [h]; decide)])
 · left
   have h' : s.getLast? = some 10 := by unfold nd at h; exact eq_of_beq h
   obtain ⟨t, e⟩ := List.getLast?_eq_some_iff.1 h'
   exact ⟨t, e, by rw [e]; exact BJ t⟩
theorem A2 (s : Str) : ∃ e, cf [] s = cm s ++ e := by
 rcases pO s with ⟨t, e1, e2⟩ | e2
 · refine ⟨[[]], ?_⟩
   unfold cm
   rw [e2, e1, show t ++ [10] = t ++ 10 :: [] from rfl, jj]; rfl
 · exact ⟨[], by unfold cm; rw [e2, bB]⟩
theorem mB (s more : Str) : ∃ r, cm (s ++ 10 :: more) = cm s ++ r := by
 obtain ⟨e, he⟩ := A2 s
 rcases pO (s ++ 10 :: more) with ⟨t, e1, e2⟩ | e2
 · by_cases hm : more = []
   · subst hm
     have : t = s := by
      have := congrArg List.dropLast e1
      simpa using this.symm
     subst this
     exact ⟨e, by unfold cm at he ⊢; rw [e2]; exact he⟩
   · obtain ⟨m, hm2⟩ : ∃ m, more = m ++ [10] := by
      have h1 : (s ++ 10 :: more).getLast? = some 10 := by rw [e1]; simp
      cases hx : more.getLast? with
      | none => exact absurd (List.getLast?_eq_none_iff.1 hx) hm
      | some x =>
        obtain ⟨m, e⟩ := List.getLast?_eq_some_iff.1 hx
        rw [e, show s ++ 10 :: (m ++ [x]) = (s ++ 10 :: m) ++ [x] by simp] at h1
        rw [List.getLast?_concat] at h1
        have : x = 10 := al h1
        exact ⟨m, by rw [e, this]⟩
     have : t = s ++ 10 :: m := by
      rw [hm2, show s ++ 10 :: (m ++ [10]) = (s ++ 10 :: m) ++ [10] by simp] at e1
      exact (List.append_cancel_right e1).symm
     refine ⟨e ++ cf [] m, ?_⟩
     show cf [] (fA _) = _
     rw [e2, this, jj, he, cP]
 · refine ⟨e ++ cf [] more, ?_⟩
   show cf [] (fA _) = _
   rw [e2, jj, he, cP]
theorem Ay {s : Str} (h : dR s) {i : Nat} (hi : s[i]? = some 10) : dR (s.take i) := by
 obtain ⟨h1, h2, _⟩ := nI h
 have hl : i < s.length := (List.getElem?_eq_some_iff.1 hi).1
 have e : s = s.take i ++ 10 :: s.drop (i + 1) := by
  have h3 : s.drop i = 10 :: s.drop (i + 1) := by
   rw [cc hl]
   rw [List.getElem?_eq_getElem hl, aa] at hi
   rw [hi]
  rw [← h3, dQ]
 obtain ⟨r, hr⟩ := mB (s.take i) (s.drop (i + 1))
 rw [← e] at hr
 rw [hr, fH] at h2
 unfold dR bf
 rw [if_neg (by rw [aX]; omega)]
 rcases hp : di dh 0 (cm (s.take i)) with ⟨c', _ | k⟩
 · rfl
 · rw [hp] at h2; simp at h2
theorem xd {s more : Str} (h : ¬ dR s) (hl : s.length + more.length < 6000) : (bf (s ++ 10 :: more)).2.1 = (bf s).2.1 ∧ (bf (s ++ 10 :: more)).2.2 = 1 ∧ ¬ dR (s ++ 10 :: more) := by
 rcases jD s with ⟨g, _⟩ | ⟨_, ⟨c, _, e⟩ | ⟨k, e1, e⟩⟩
 · omega
 · exact absurd (by show (bf s).2.2 = 0; rw [e]) h
 · obtain ⟨r, hr⟩ := mB s more
   have key : bf (s ++ 10 :: more) = (dh, (k : Int) + 1, 1) := by
    rcases jD (s ++ 10 :: more) with ⟨g, _⟩ | ⟨_, ⟨c, e2, _⟩ | ⟨k2, e2, e3⟩⟩
    · simp only [aj, ak] at g; omega
    · rw [hr, fH] at e2
      rcases hp : di dh 0 (cm s) with ⟨c', _ | k'⟩
      · rw [hp] at e1; simp at e1
      · rw [hp] at e2; simp at e2
    · rw [hr, fH] at e2
      rcases hp : di dh 0 (cm s) with ⟨c', _ | k'⟩
      · rw [hp] at e1; simp at e1
      · rw [hp] at e1 e2
        simp only [aa] at e1 e2
        rw [e3, ← e2, e1]
   rw [key, e]
   refine ⟨rfl, rfl, fun hr => ?_⟩
   have h2 : (bf (s ++ 10 :: more)).2.2 = 0 := hr
   rw [key] at h2
   have h3 : (1 : Int) = 0 := h2
   exact absurd h3 (by decide)
def gB (l : List Deed) : Prop := ∀ d ∈ l, d.expr.length ≤ 32
theorem gB.nil : gB [] := by intro d hd; cases hd
theorem o3 (s : Str) : (aW s).1.length ≤ 32 := by
 unfold aW
 repeat' split
 all_goals (first | exact bA _ | (show (b9 s).out.length ≤ 32; omega))
theorem Bh {s : Str} {d : Deed} (h : fL s = some d) : d.expr.length ≤ 32 := by
 have h2 := o3 (bO s)
 unfold fL at h
 repeat' split at h
 all_goals first
  | (cases h; done)
  | (simp only [aa] at h; subst h; first | exact bA _ | exact h2)
theorem nT : ∀ (ps : List Str) (l : List Deed), readAll ps = some l → gB l
 | [], l, h => by simp only [readAll, aa] at h; subst h; exact gB.nil
 | p :: r, l, h => by
   simp only [readAll] at h
   split at h
   · rename_i d m h1 h2
     simp only [aa] at h; subst h
     intro x hx
     rcases aS.1 hx with rfl | hx
     · exact Bh h1
     · exact nT r m h2 x hx
   · cases h
theorem kL (s : Str) : gB (aK s).1 := by
 unfold aK
 repeat' split
 all_goals first
  | exact gB.nil
  | exact nT _ _ (by assumption)
structure Sm (c : Chart) : Prop where
 stat : ∀ s ∈ c.states, gB s.entry ∧ gB s.leave
 tran : ∀ t ∈ c.trans, t.guard.length ≤ 32 ∧ gB t.acts
theorem fu {p : Prop} {i : Decidable p} {a b : Option Chart} {c : Chart} (h : (if p then a else b) = some c) : a = some c ∨ b = some c := by
 split at h
 · exact .inl h
 · exact .inr h
theorem Sm.add {c : Chart} (h : Sm c) {l : List Ev.Stat} (hl : ∀ x ∈ l, x ∈ c.states) {s : Ev.Stat} (h1 : gB s.entry) (h2 : gB s.leave) : Sm { c with states := l ++ [s] } := ⟨fun x hx => by
 rcases bb.1 hx with hx | hx
 · exact h.1 x (hl x hx)
 · rw [aU.1 hx]; exact ⟨h1, h2⟩, h.2⟩
theorem Sm.line {c c' : Chart} {k : Nat} {l : Str} (h : Sm c) (e : dE c k l = some c') : Sm c' := by
 unfold dE at e
 split at e
 · split at e
   · unfold se at e
     obtain ⟨_, rfl⟩ := dz e; exact ⟨h.1, h.2⟩
   · unfold dY at e
     have hst : ∀ {kind : Int} {m : Nat} {d : Int} {w : List Str}, aD kind m c d w = some c' → Sm c' := fun e => by
      unfold aD at e; obtain ⟨_, rfl⟩ := dz e; exact h.add (fun _ => id) gB.nil gB.nil
     rcases fu e with e | e
     · unfold iz at e; obtain ⟨_, rfl⟩ := dz e; exact ⟨h.1, h.2⟩
     rcases fu e with e | e
     · unfold lF at e; obtain ⟨_, rfl⟩ := dz e; exact ⟨h.1, h.2⟩
     rcases fu e with e | e
     · unfold jF at e; obtain ⟨_, rfl⟩ := dz e; exact ⟨h.1, h.2⟩
     rcases fu e with e | e
     · unfold gI at e; obtain ⟨_, rfl⟩ := dz e; exact ⟨h.1, h.2⟩
     rcases fu e with e | e
     · exact hst e
     rcases fu e with e | e
     · exact hst e
     rcases fu e with e | e
     · exact hst e
     rcases fu e with e | e
     · exact hst e
     rcases fu e with e | e
     · exact hst e
     rcases fu e with e | e
     · exact hst e
     rcases fu e with e | e
     · unfold gk at e
       split at e
       · rename_i s hs
         obtain ⟨_, rfl⟩ := dz e
         exact h.add (fun _ hx => List.dropLast_subset _ hx) (kL _) (h.1 s (List.mem_of_getLast? hs)).2
       · cases e
     rcases fu e with e | e
     · unfold hU at e
       split at e
       · rename_i s hs
         obtain ⟨_, rfl⟩ := dz e
         exact h.add (fun _ hx => List.dropLast_subset _ hx) (h.1 s (List.mem_of_getLast? hs)).1 (kL _)
       · cases e
     rcases fu e with e | e
     · unfold onC at e
       obtain ⟨_, rfl⟩ := dz e
       refine ⟨h.1, fun t ht => ?_⟩
       rcases bb.1 ht with ht | ht
       · exact h.2 t ht
       · rw [aU.1 ht]
         constructor
         · show (if _ then _ else _ : List Cell).length ≤ 32
           split
           · exact bA _
           · exact o3 _
         · show gB (if _ then _ else _)
           split
           · exact gB.nil
           · exact kL _
     · cases e
 · cases e
/-! ### plain -/
variable {s : Str} {a b : Int}
theorem D2 (h : kJ s (a, b)) : ptA s = a ∧ ptB s = b := by
 obtain ⟨g1, g2, g3⟩ := lf ⟨(a, b), h⟩
 obtain ⟨k1, k2, k3⟩ := h
 have := qJ g1 g2 k1 k2 (g3.trans k3.symm)
 exact ⟨this.1, this.2⟩
def RpQ (s : Str) : Out := fun v k => (eg s → v = .tup [.agg [.pd (.int .i64 (ptA s)), .pd (.int .i64 (ptB s))], .c (.pd (.int .i64 0))]) ∧ (¬ eg s → v = .tup [.agg [.pd (.int .i64 0), .pd (.int .i64 0)], .c (.pd (.int .i64 1))]) ∧ k = []
theorem RpQ.no (h : ¬ eg s) : RpQ s (.tup [.agg [.pd (.int .i64 0), .pd (.int .i64 0)], .c (.pd (.int .i64 1))]) [] := ⟨fun h' => absurd h' h, fun _ => rfl, rfl⟩
theorem RpQ.yes (h : kJ s (a, b)) : RpQ s (.tup [.agg [.pd (.int .i64 a), .pd (.int .i64 b)], .c (.pd (.int .i64 0))]) [] := by
 obtain ⟨t1, t2⟩ := D2 h
 exact ⟨fun _ => by rw [t1, t2], fun h' => absurd ⟨(a, b), h⟩ h', rfl⟩
/-! ### the walk -/
def pA (q : Int) : Nat := if q = 2 ∨ 4 < q then 2 else 1
def SdQ (c : Chart) (d : Int) (w : List Str) (q : Int) : Out := fun v k => (q = 0 → v = .x (.i 0) ∧ k = wK c) ∧ (q ≠ 0 → (∀ c', aD q (pA q) c d (w.drop 1) = some c' → v = .x (.i 1) ∧ Rn 5 k (ckD c')) ∧ (aD q (pA q) c d (w.drop 1) = none → v = .x (.i 2)))
theorem SdQ.none {c : Chart} {d : Int} {w : List Str} : SdQ c d w 0 (.x (.i 0)) (wK c) := ⟨fun _ => ⟨rfl, rfl⟩, fun h => absurd rfl h⟩
theorem SdQ.no {c : Chart} {d q : Int} {w : List Str} {k : List Chunk} (hq : q ≠ 0) (h : aD q (pA q) c d (w.drop 1) = Option.none) : SdQ c d w q (.x (.i 2)) k := ⟨fun h2 => absurd h2 hq, fun _ => ⟨fun c' h2 => (by rw [h] at h2; cases h2), fun _ => rfl⟩⟩
theorem SdQ.yes {c c' : Chart} {d q : Int} {w : List Str} {k : List Chunk} (hq : q ≠ 0) (h : aD q (pA q) c d (w.drop 1) = some c') (hk : k = Co c') : SdQ c d w q (.x (.i 1)) k := ⟨fun h2 => absurd h2 hq, fun _ => ⟨fun c2 h2 => ⟨rfl, by rw [h] at h2; cases h2; exact (IsD.of3 hk).2⟩, fun h2 => (by rw [h] at h2; cases h2)⟩⟩
def wb (o : Option Chart) : Out := fun v k => (∀ c', o = some c' → IsD c' v k) ∧ (o = none → v = .x (.b false))
theorem wb.yes {o : Option Chart} {c' : Chart} {v : SV} {k : List Chunk} (h : o = some c') (hr : IsD c' v k) : wb o v k := ⟨fun c2 h2 => (by rw [h] at h2; cases h2; exact hr), fun h2 => (by rw [h] at h2; cases h2)⟩
theorem wb.no {o : Option Chart} {k : List Chunk} (h : o = none) : wb o (.x (.b false)) k := ⟨fun c2 h2 => (by rw [h] at h2; cases h2), fun _ => rfl⟩
def ShQ (c : Chart) : Out := fun v ck => (okC c → v = .tup [.s (xR c), .i 0] ∧ ck = []) ∧ (¬ okC c → v = .tup [.s [], .i 1] ∧ ck = [])
theorem ShQ.no {c : Chart} (h : ¬ okC c) {v : SV} {ck : List Chunk} (hv : v = .tup [.s [], .i 1]) (hc : ck = []) : ShQ c v ck := ⟨fun k => absurd k h, fun _ => ⟨hv, hc⟩⟩
theorem ShQ.yes {c : Chart} (h : okC c) {v : SV} {ck : List Chunk} (hv : v = .tup [.s (xR c), .i 0]) (hc : ck = []) : ShQ c v ck := ⟨fun _ => ⟨hv, hc⟩, fun k => absurd h k⟩
/-! ### sizes -/
/-! ### the walk -/
theorem ah.sub {P : Program} {f : FuncId} {args args' : List SX} {ck ck' : List Chunk} {ret : SV} (h : ∀ (V : Vn) (vs : List Value), All2 (SX.R V) args vs → All2 (SX.R V) args' vs) (d : ah P f args' ck ret ck') : ah P f args ck ret ck' :=
 fun w V vs hw hT hv => d w V vs hw hT (h V vs hv)
/-! ### copies -/
/-! ### what is read is small -/
/-! ### ChartParses -/
/-! ### ChartPrefix -/
noncomputable def sW : Cfg := ⟨bn, [xK, mi]⟩
theorem qZ : ag Tryz.prog sW.tab := (ag.cons Ew (ag.cons qX ag.nil))
noncomputable def yy : Cfg := ⟨bn, [yp, mi]⟩
theorem yY : ag Tryz.prog yy.tab := (ag.cons Fe (ag.cons qX ag.nil))
abbrev zYm1 : List PI := [.code [1, 1, 1, 1, 0, 1, 0, 0, 1, 0, 0], .inLoop [1, 1, 1, 1, 0, 1, 0, 0, 1, 0, 0], .inBlock 0, .code [1, 1, 1, 1, 0, 1, 0, 1], .code [1, 1, 1, 1, 1]]
theorem Eb (s more : Str) (Γ : Ctx) (h : dR s) : ∀ (n k : Nat), s.length - k ≤ n → k ≤ s.length → J Tryz.prog 7 (aE Tryz.f7) Γ (Eq2 (.x (.b true)) []) zYm1 ({ n := 67, fr := [(0, .p (.str s)), (1, .p (.str more)), (4, .p (.bool false)), (6, .i 0), (32, .i (ae s)), (33, .i k)], ck := [], kn := [4] }) := by
 have hl : ae s = (s.length : Int) := rfl
 have h6 := (nI h).1
 intro n
 induction n with
 | zero => ?_
 | succ n ih => ?_
 all_goals
  intro k hn hk
  refine jg qZ Tryz.func7 (let x1 : Tree := (.stop zYm1 { n := 67, fr := [(0, .p (.str s)), (1, .p (.str more)), (4, .p (.bool false)), (6, .i 0), (32, .i (ae s)), (33, .i (IntKind.wrap .i64 ((k : Int) + 1)))], ck := [], kn := [4] }); .ite (decide ((k : Int) < ae s)) (.need ((0 : Int) ≤ (k : Int) ∧ (k : Int) < ae s) (.ite ((↑((List.getD s k (0 : UInt8)).toNat) : Int) == 10) (.need ((0 : Int) ≤ (k : Int) ∧ (k : Int) ≤ (s.length : Int)) (.need (dR ((aw s none (some (k : Int))).2)) (.ite false (.ret (.p (.bool false)) []) x1))) x1)) (.ret (.p (.bool true)) [])) ?_
  conv => zeta
  refine ⟨fun hlt => ?_, fun hge => ?_⟩
  · have hk' : k < s.length := by have := of_decide_eq_true hlt; omega
    have ec : (aw s none (some (k : Int))).2 = s.take k := by simp [aw]
    rw [ec, fW (by omega)]
    refine ⟨by omega, fun hb => ⟨by omega, ?_, fun h0 => absurd h0 (by decide), fun _ => ?_⟩, fun hb => ?_⟩
    · refine Ay h ?_
      have h1 : ((s.getD k 0).toNat : Int) = 10 := eq_of_beq hb
      have h2 : (s.getD k 0).toNat = 10 := by omega
      rw [List.getElem?_eq_getElem hk']
      rw [List.getD_eq_getElem?_getD, List.getElem?_eq_getElem hk', dA] at h2
      rw [show s[k] = 10 from UInt8.toNat_inj.1 h2]
    all_goals first
     | (exfalso; omega)
     | exact ih (k + 1) (by omega) (by omega)
  · exact ⟨rfl, rfl⟩
theorem pN (s more : Str) (hs : s.length ≤ 140737488355328) (hm : more.length ≤ 140737488355328) : ah Tryz.prog 7 [.s s, .s more] [] (.x (.b true)) [] := by
 have l1 : ae s = (s.length : Int) := rfl
 have l2 : ae more = (more.length : Int) := rfl
 have hw : IntKind.wrap .i64 (ae s + ae more) = ((s.length + more.length : Nat) : Int) := by rw [cg (by omega) (by omega)]; omega
 have ea : s ++ [10] ++ more = s ++ 10 :: more := by simp
 by_cases h : dR s
 · refine dg qZ Tryz.func7 (.ite false (.ret (.p (.bool false)) []) (.ite (decide (IntKind.wrap .i64 (ae s + ae more) ≥ (6000 : Int))) (.ret (.p (.bool true)) []) (.need (dR s) (.ite true (.stop zYm1 { n := 67, fr := [(0, .p (.str s)), (1, .p (.str more)), (4, .p (.bool false)), (6, .i 0), (32, .i (ae s)), (33, .i 0)], ck := [], kn := [4] }) (.need (s.length + 1 ≤ 9223372036854775807) (.need ((s ++ [(10 : UInt8)]).length + more.length ≤ 9223372036854775807) (.need (dR (s ++ [(10 : UInt8)] ++ more)) (.ret (.p (.bool false)) [])))))))) fun Γ => ?_
   rw [hw]
   refine ⟨fun h0 => absurd h0 (by decide), fun _ => ⟨fun _ => ⟨rfl, rfl⟩, fun _ => ⟨h, fun _ => ?_, fun h0 => absurd h0 (by decide)⟩⟩⟩
   exact Eb s more Γ h s.length 0 (by omega) (by omega)
 · refine dg yY Tryz.func7 (.ite false (.ret (.p (.bool false)) []) (.ite (decide (IntKind.wrap .i64 (ae s + ae more) ≥ (6000 : Int))) (.ret (.p (.bool true)) []) (.need (¬dR s) (.ite (((bf s).2).2 == (0 : Int)) (.stop zYm1 { n := 67, fr := [(0, .p (.str s)), (1, .p (.str more)), (4, .p (.bool false)), (6, .i (((bf s).2).1)), (32, .i (ae s)), (33, .i 0)], ck := [], kn := [4] }) (.need (s.length + 1 ≤ 9223372036854775807) (.need ((s ++ [(10 : UInt8)]).length + more.length ≤ 9223372036854775807) (.need (¬dR (s ++ [(10 : UInt8)] ++ more)) (.ret (.p (.bool (((bf (s ++ [(10 : UInt8)] ++ more)).2).2 == (1 : Int) && ((bf (s ++ [(10 : UInt8)] ++ more)).2).1 == ((bf s).2).1))) [])))))))) fun Γ => ?_
   rw [hw, ea]
   refine ⟨fun h0 => absurd h0 (by decide), fun _ => ⟨fun _ => ⟨rfl, rfl⟩, fun hlt => ⟨h, fun h0 => ?_, fun _ => ?_⟩⟩⟩
   · have : (bf s).2.2 = 0 := eq_of_beq h0
     exact absurd this h
   · have hlt' := of_decide_eq_false hlt
     obtain ⟨q1, q2, q3⟩ := xd (more := more) h (by omega)
     refine ⟨by omega, by simp only [aj, ak, au]; omega, q3, ?_, rfl⟩
     rw [q1, q2]; simp
/-! ### ChartNormal -/
/-! ### ChartBack -/
end Go.Proofs.YtpfidgnkokidoaaGreatDoor
namespace Go.Ev
open Go.RowKit Go.ChangeShapes Go.WideShapes
def HW (W : World) : Mem := fun k => W.heap[k]?
def VW (W : World) : Vn := ⟨HW W, fun _ => 0, fun _ => undef⟩
theorem yB (W : World) : WOk (entry [] (VW W) W) [] (VW W) W where
 ext := Fr.refl _ _
 imm := fun _ _ h => h
 hle := HLe.refl _
 frz := fun _ h => .inl h
 agr := fun i hi => absurd hi (Nat.not_lt_zero _)
 own := fun i c h => by simp at h
 base := fun i c b h => by simp at h
 inj := fun i j c d b h => by simp at h
theorem ah.law {P : Program} {f : FuncId} {args : List SX} {b : Bool} (h : ah P f args [] (.x (.c (.pd (.bool b)))) []) {W : World} (hT : iK P (HW W)) {vs : List Value} (hvs : All2 (SX.R (VW W)) args vs) :
 Calls P f vs.toArray W (fun e W' => e = .returned (.bool b) ∧ Below W.heap.size W W') := by
 refine (h W (VW W) vs (yB W) hT hvs).mono fun e W' hp => ?_
 obtain ⟨v, V', rfl, hr, hw⟩ := hp
 have hr' : PR V'.H (.bool b) v := hr
 cases hr'
 refine ⟨rfl, hw.ext.os, hw.ext.tape, hw.ext.output, hw.ext.size, fun k hk => hw.ext.block k hk ?_⟩
 rintro ⟨i, c, hc, _⟩
 simp [entry] at hc
section
variable {Hh : Type} {enc : TypeId × Value → Hh} {P : Program} {W : World} {base : Nat} {spare : Nat → Bool} {held : Bool}
end
section
variable {Hh : Type} {enc : TypeId × Value → Hh} {P : Program} {W W' : World}
theorem lC (hl : laidOutB P = true) (hb : Below W.heap.size W W') : ∀ {ts : List TypeId} {vs : List Value} {ds : List (DataW Hh)} {p : List MemPlace}, (∀ t ∈ ts, P.readableRec t = true ∧ t < P.types.size) → (∀ x ∈ p, x.block < W.heap.size) →
 DataW.TrodAll enc P W 0 (fun _ => true) true ts vs ds p → DataW.TrodAll enc P W' 0 (fun b => decide (b < W.heap.size)) true ts vs ds p
 | [], _, _, _, _, _, h => by
   obtain ⟨rfl, rfl, rfl⟩ := trodAll_nil h
   rfl
 | t :: ts, _, _, _, hr, hp, h => by
   obtain ⟨v, vs, d, ds, a, b, rfl, rfl, rfl, h1, h2⟩ := trodAll_cons h
   exact ⟨a, b, Below.trod hl (hr t aG).1 (hr t aG).2 h1 hb (fun x hx => hp x (cN _ hx)),
    lC hl hb (fun u hu => hr u (aO _ hu)) (fun x hx => hp x (cG _ hx)) h2, rfl⟩
theorem B6 {f : Func} {s : ChangeSpec} {tb : TypeId} {args : Array Value} {ds gs : List (DataW Hh)} {before : List MemPlace} (hl : laidOutB P = true) (hrt : f.resultTypes.toList = [tb]) (hsz : f.resultTypes.size = 1) (htb : P.underlying tb = some .bool) (hvars : s.vars = [])
 (hfn : (s.fn Hh ds).results = [.lit (.bool true)] ∧ (s.fn Hh ds).args = ds ∧ (s.fn Hh ds).vars = []) (hpar : ∀ t ∈ f.params.toList, P.readableRec t = true ∧ t < P.types.size)
 (hW : DataW.Whole enc P f.params.toList s.vars false W args.toList ds gs before) (hb : Below W.heap.size W W') : s.post enc P f false true false false W args (.bool true) W' := by
 have hW' := hW
 obtain ⟨p, q, hA, hV, rfl, hfz, hnd⟩ := hW
 rw [hvars] at hV
 obtain ⟨rfl, rfl⟩ := trodVars_none hV
 rw [bB] at hW' hfz
 have hlt : ∀ x ∈ p, x.block < W.heap.size := fun x hx => by simpa using hW'.lt x hx
 refine ⟨ds, [], p, [], p, [], hW', ?_, ?_, ?_, ?_, fun h => Bool.noConfusion h⟩
 · rw [bB, hfn.1, hrt, hsz]
   exact trodAll_mk1 (shut_bool htb _)
 · rw [bB, hfn.2.1]
   exact lC hl hb hpar hlt hA
 · rw [bB, hfn.2.2, hvars]
   rfl
 · exact World.keptBut_mono (fun x hx => ⟨hx, .inr (.inl hx)⟩) (hb.frame _)
end
end Go.Ev
namespace Go.Proofs.YtpfidgnkokidoaaGreatDoor
open Go Go.Ev Go.RowKit Go.ChangeShapes Go.WideShapes Go.ChangeAt
set_option maxRecDepth 100000
theorem own : ownKnob Tryz.prog.godebug = none := by kernel_rfl
theorem laidOut : laidOutB Tryz.prog = true := by kernel_rfl
theorem vu {P : Program} {W : World} {name : String} {cs : Array Value} (h : W.var? P name = some cs) : me P (HW W) name cs := by
 unfold World.var? at h
 cases hg : P.globalNamed name with
 | none => rw [hg] at h; simp at h
 | some g =>
   rw [hg] at h
   simp only [ei] at h
   split at h
   · rename_i c e fr hb
     simp only [aa] at h
     subst h
     exact ⟨g, e, fr, hg, hb⟩
   · cases h
abbrev rl : ByteArray := ⟨#[118, 97, 108, 117, 101, 32, 111, 117, 116, 32, 111, 102, 32, 114, 97, 110, 103, 101]⟩
abbrev pr : ByteArray := ⟨#[105, 110, 118, 97, 108, 105, 100, 32, 115, 121, 110, 116, 97, 120]⟩
theorem FS (u : TypeId) (h : Tryz.prog.typeName? 3 u = some "*errors.errorString") : u = 250 :=
 typeName_ptr_named (nm := "errors.errorString") (by rw [show ("*" ++ "errors.errorString" : String) = "*errors.errorString" by kernel_rfl]; kernel_rfl) (by kernel_rfl) (by decide) u (by rw [show ("*" ++ "errors.errorString" : String) = "*errors.errorString" by kernel_rfl]; exact h)
theorem vM {W : World} {n : String} {text : List UInt8} {l : List (String × DataW Unit)} (h : laidMetH Tryz.prog l W) (e : (l.filter fun x => x.1 == n) = [(n, .iface "*errors.errorString" (.ptr (.agg [.lit (.string text)])))]) (ht : (Tryz.prog.globals[(Tryz.prog.globalNamed n).getD 0]?).map (·.type) = some 75) (hg : (Tryz.prog.globalNamed n).isSome = true) : CE Tryz.prog (HW W) n := fun _ => by
 have h1 := laidMetH.filter (fun x => x.1 == n) h
 rw [e, MakeChecks.laidMetH_plain _ _ _ (by rfl)] at h1
 obtain ⟨g, hg⟩ := cL.1 hg
 rw [hg] at ht
 obtain ⟨a0, s0, hv0, -, -, -⟩ := laid_sentinel h1 hg ht Tryz.underlying75 FS Tryz.underlying250 Tryz.underlying252 rfl rfl Tryz.underlying9 (by kernel_rfl) (by kernel_rfl)
 exact ⟨_, _, vu hv0⟩
theorem A1 {W : World} (h : W.ShapedOpen Tryz.prog) : sY Tryz.prog (HW W) "internal/bytealg.MaxLen" := fun _ => by
 obtain ⟨m, hm⟩ : ∃ m, W.cell? ⟨0, 0, none⟩ = some (.int .i64 m) := Go.Proofs.cell_of_shapedOpen_int (zero := #[.int .i64 0]) (t := 3) h (of_decide_eq_true (by kernel_rfl)) (by kernel_rfl) rfl (by kernel_rfl) (by kernel_rfl) Tryz.underlying3
 unfold World.cell? at hm
 split at hm
 · split at hm
   · cases hm
   · rename_i cs e fr hb _
     exact ⟨0, cs, e, fr, m, by kernel_rfl, hb, hm⟩
 · cases hm
theorem GL {W : World} (h : laidMetH Tryz.prog Rows.chartParsesRow.laid W) (hs : W.ShapedOpen Tryz.prog) : iK Tryz.prog (HW W) := by
 refine ⟨fun _ => ?_, vM (text := pr.data.toList) h (by kernel_rfl) (by kernel_rfl) (by kernel_rfl), vM (text := rl.data.toList) h (by kernel_rfl) (by kernel_rfl) (by kernel_rfl), A1 hs⟩
 have h1 := laidMetH.filter (fun x => x.1 == "internal/strconv.uint64pow10") h
 have e : (Rows.chartParsesRow.laid.filter fun x => x.1 == "internal/strconv.uint64pow10") = [("internal/strconv.uint64pow10", Lib.tabData .u64 Lib.pow10Tab)] := by kernel_rfl
 rw [e] at h1
 have ht : (Tryz.prog.globals[(Tryz.prog.globalNamed "internal/strconv.uint64pow10").getD 0]?).map (·.type) = some 240 := by kernel_rfl
 exact vu (Lib.tabIs_of_head (rest := []) (g := (Tryz.prog.globalNamed "internal/strconv.uint64pow10").getD 0) (by kernel_rfl) ht Tryz.underlying240 Tryz.underlying182 (by kernel_rfl) (by kernel_rfl) h1)
noncomputable def E6 : DataW Unit → List Value
 | .lit (.int k z) => [Value.int k z]
 | .agg [.lit (.int k z), .lit (.int k' z')] => [Value.int k z, Value.int k' z']
 | _ => []
noncomputable def BS : DataW Unit → Array Value
 | .agg ds => (ds.flatMap E6).toArray
 | _ => #[]
noncomputable def oz (name : String) (cs : Array Value) (heap : Array Obj) : Array Obj := heap.modify ((Tryz.prog.globalNamed name).getD 0) fun
 | .cells _ t frozen => .cells cs t frozen
 | o => o
noncomputable def mL (name : String) (d : DataW Unit) (heap : Array Obj) : Array Obj := oz name (BS d) heap
noncomputable def low : Nat := (World.holding Tryz.prog default ⟨#[], #[], []⟩).heap.size
noncomputable def y7 (os : Os) : World := World.holding Tryz.prog os ⟨#[.cells #[.string rl] 252, .cells #[.string pr] 252], #[], []⟩
noncomputable def mh (os : Os) : World :=
 { y7 os with heap := oz "strconv.ErrRange" #[.iface 250 (.pointer (some ⟨low, 0, none⟩))] (oz "strconv.ErrSyntax" #[.iface 250 (.pointer (some ⟨low + 1, 0, none⟩))] (mL "unicode/utf8.first" Rows.laid_unicode_utf8_first (mL "unicode/utf8.acceptRanges" Rows.laid_unicode_utf8_acceptRanges (mL "internal/strconv.uint64pow10" Rows.laid_internal_strconv_uint64pow10 (mL "math/bits.deBruijn64tab" Rows.laid_math_bits_deBruijn64tab (mL "math/bits.deBruijn32tab" Rows.laid_math_bits_deBruijn32tab (y7 os).heap)))))) }
theorem vF {Hh : Type} {enc : TypeId × Value → Hh} {W : World} {base : Nat} {spare : Nat → Bool} {held : Bool} {v : Value} {d : DataW Hh} {ps : List MemPlace} {b0 : Nat} (h : DataW.Trod enc Tryz.prog W base spare held 9 v d ps) (hv : Value.okWide Tryz.prog W .any b0 9 v) :
 ∃ s : Str, SX.R (VW W) (.c (.pd (.str s))) v ∧ d = .lit (.string s) := by
 have hv' : Cell.okWide Tryz.prog W .any b0 9 v := by simpa only [Value.okWide, Tryz.underlying9] using hv
 obtain ⟨fuel, hf⟩ := h
 have hc : v.cells.toList = [v] := by
  have hv2 := hv'
  simp only [Cell.okWide, Tryz.underlying9, Cell.ok] at hv2
  cases v <;> first | rfl | exact hv2.elim
 rw [hc] at hf
 obtain ⟨s, h1, h2⟩ := DataW.trod_string Tryz.underlying9 hf
 simp only [ez, and_true] at h1
 subst h1
 refine ⟨s.data.toList, ?_, ?_⟩
 · have : PR (HW W) (.str s.data.toList) (.string (bs s.data.toList)) := .str _
   rw [ik] at this
   exact this
 · exact congrArg Prod.fst h2.1
end Go.Proofs.YtpfidgnkokidoaaGreatDoor

/- Numbers read: the program's, the document's. Conditions: texts of at most 2^48 bytes. Expressions read, as a plain relation: what the program's reader does. Conditions: none. -/
import Derived.Test.YtpfidgnkokidoaaGreatDoorKh
namespace Go.Proofs.YtpfidgnkokidoaaGreatDoor
open Go Go.Ev
set_option maxRecDepth 100000
/-! ### plain -/
variable (c : UInt8) (r s : Str)
def isD : Bool := decide (48 ≤ (c.toNat : Int)) && decide ((c.toNat : Int) ≤ 57)
def cR : Nat → List UInt8 → Nat
 | a, [] => a
 | a, c :: r => cR (10 * a + (c.toNat - 48)) r
def eS : Bool := bg s [45] == [] || !(bg s [45]).all isD || (((bg s [45]).getD 0 0).toNat : Int) == 48 && (decide (ae (bg s [45]) > 1) || aY s [45])
def a7 : Int × Int := if eS s = true then (0, 1) else if 1099511627776 < cR 0 (bg s [45]) then (0, 5) else (if aY s [45] = true then -(cR 0 (bg s [45]) : Int) else (cR 0 (bg s [45]) : Int), 0)
theorem DW : eY.contains c = isD c := by
 rw [bZ]
 simp only [eY, isD, List.contains_eq_mem, aS, List.not_mem_nil, or_false, decide_eq_true_eq, af]
 constructor
 · intro h
   rcases h with rfl | rfl | rfl | rfl | rfl | rfl | rfl | rfl | rfl | rfl <;> decide
 · intro h
   have hn : c.toNat = 48 ∨ c.toNat = 49 ∨ c.toNat = 50 ∨ c.toNat = 51 ∨ c.toNat = 52 ∨ c.toNat = 53 ∨ c.toNat = 54 ∨ c.toNat = 55 ∨ c.toNat = 56 ∨ c.toNat = 57 := by omega
   have key : ∀ d : UInt8, c.toNat = d.toNat → c = d := fun d h => UInt8.toNat_inj.1 h
   rcases hn with h | h | h | h | h | h | h | h | h | h
   · exact .inl (key 48 h)
   · exact .inr (.inl (key 49 h))
   · exact .inr (.inr (.inl (key 50 h)))
   · exact .inr (.inr (.inr (.inl (key 51 h))))
   · exact .inr (.inr (.inr (.inr (.inl (key 52 h)))))
   · exact .inr (.inr (.inr (.inr (.inr (.inl (key 53 h))))))
   · exact .inr (.inr (.inr (.inr (.inr (.inr (.inl (key 54 h)))))))
   · exact .inr (.inr (.inr (.inr (.inr (.inr (.inr (.inl (key 55 h))))))))
   · exact .inr (.inr (.inr (.inr (.inr (.inr (.inr (.inr (.inl (key 56 h)))))))))
   · exact .inr (.inr (.inr (.inr (.inr (.inr (.inr (.inr (.inr (key 57 h)))))))))
theorem dropWhile_nil {p : UInt8 → Bool} : ∀ {l : List UInt8}, l.dropWhile p = [] ↔ ∀ x ∈ l, p x = true
 | [] => by simp
 | c :: r => by
   rw [List.dropWhile_cons]
   by_cases h : p c = true
   · rw [if_pos h, dropWhile_nil]; simp [h]
   · rw [if_neg h]; simp [h]
theorem kj {p : UInt8 → Bool} {a : UInt8} {r : List UInt8} : ∀ {l : List UInt8}, l.dropWhile p = a :: r → p a = false
 | [], h => by simp at h
 | c :: l, h => by
   rw [List.dropWhile_cons] at h
   by_cases hc : p c = true
   · rw [if_pos hc] at h; exact kj h
   · rw [if_neg hc] at h
     simp only [ez] at h
     rw [← h.1]; simpa using hc
theorem uq (l : Str) : (iS l == []) = l.all isD := by
 have hp : (fun c => eY.contains c) = isD := funext DW
 have e : iS l = ((l.reverse.dropWhile isD).reverse).dropWhile isD := by
  show ((l.reverse.dropWhile (eY.contains ·)).reverse).dropWhile (eY.contains ·) = _
  rw [hp]
 rw [e, bZ, beq_iff_eq, ai]
 constructor
 · intro h
   have h1 := dropWhile_nil.1 h
   have h2 : l.reverse.dropWhile isD = [] := by
    cases hx : l.reverse.dropWhile isD with
    | nil => rfl
    | cons a r =>
      exfalso
      have h3 := h1 a (by rw [hx]; simp)
      have h4 := kj hx
      rw [h3] at h4; cases h4
   intro x hx
   exact dropWhile_nil.1 h2 x (by simpa using hx)
 · intro h
   have h2 : l.reverse.dropWhile isD = [] := dropWhile_nil.2 fun x hx => h x (by simpa using hx)
   rw [h2]; rfl
theorem vP : ∀ (l : List UInt8) (a : Nat), a ≤ cR a l
 | [], a => ay _
 | c :: r, a => by
   have h1 := vP r (10 * a + (c.toNat - 48))
   have h2 : a ≤ 10 * a + (c.toNat - 48) := by omega
   exact a6 h2 h1
theorem uE (M : Nat) (hM : M = 18446744073709551615) : ∀ (l : List UInt8) (a : Nat), l.all isD = true → a ≤ M → Lib.parseUintM M a l = if cR a l ≤ M then .ok (cR a l) else .range
 | [], a, _, h => by
   have e : cR a [] = a := rfl
   rw [e, if_pos h]; rfl
 | c :: r, a, h, ha => by
   simp only [bq, af] at h
   have hd : 48 ≤ c.toNat ∧ c.toNat ≤ 57 := by
    have := h.1
    simp only [isD, af, decide_eq_true_eq] at this
    omega
   have hge := vP r (10 * a + (c.toNat - 48))
   have hc : a * 10 + (c.toNat - 48) = 10 * a + (c.toNat - 48) := by omega
   have hv : cR a (c :: r) = cR (10 * a + (c.toNat - 48)) r := rfl
   have hu : Lib.parseUintM M a (c :: r) = if 48 ≤ c.toNat ∧ c.toNat ≤ 57 then (if 1844674407370955162 ≤ a then .range else if M < a * 10 + (c.toNat - 48) then .range else Lib.parseUintM M (a * 10 + (c.toNat - 48)) r) else .syntax := rfl
   rw [hu, if_pos hd, hv, hc]
   generalize 10 * a + (c.toNat - 48) = b at *
   by_cases h1 : 1844674407370955162 ≤ a
   · rw [if_pos h1, if_neg (by omega)]
   · rw [if_neg h1]
     by_cases h2 : M < b
     · rw [if_pos h2, if_neg (by omega)]
     · rw [if_neg h2]
       exact uE M hM r b h.2 (by omega)
theorem jO : bg (45 :: r) [45] = r ∧ aY (45 :: r) [45] = true := by
 have h : aY (45 :: r) [45] = true := by simp [aY, ae]; omega
 exact ⟨by rw [bg, h]; rfl, h⟩
theorem iu {c : UInt8} (r : Str) (h : c ≠ 45) : bg (c :: r) [45] = c :: r ∧ aY (c :: r) [45] = false := by
 have h' : aY (c :: r) [45] = false := by simp [aY, ae, h]
 exact ⟨by rw [bg, h']; rfl, h'⟩
theorem EJ : bg [] [45] = [] ∧ aY [] [45] = false := by decide
theorem jS {s : Str} (h : eS s = false) : (cy s = true → aJ s = if aY s [45] = true then -(cR 0 (bg s [45]) : Int) else (cR 0 (bg s [45]) : Int)) ∧ (cy s = false → 9223372036854775808 ≤ cR 0 (bg s [45])) := by
 simp only [eS, aH, cY] at h
 obtain ⟨⟨hne, hall⟩, _⟩ := h
 cases s with
 | nil => rw [EJ.1] at hne; simp at hne
 | cons c r =>
   by_cases hc : c = 45
   · subst hc
     rw [(jO r).1] at hne hall ⊢
     rw [(jO r).2]
     have hr : r ≠ [] := by simpa using hne
     have hu : Lib.parseUintB 64 r = if cR 0 r ≤ 18446744073709551615 then .ok (cR 0 r) else .range := by
      rw [Lib.parseUintB, if_neg hr]; exact uE _ rfl r 0 hall (bA _)
     have hp : Lib.parseIntB 64 (45 :: r) = if cR 0 r ≤ 18446744073709551615 then (if 9223372036854775808 < cR 0 r then .range else .ok (-(cR 0 r : Int))) else .range := by
      simp only [Lib.parseIntB]
      have e1 : ((45 : UInt8).toNat = 43 ∨ (45 : UInt8).toNat = 45) := .inr rfl
      rw [if_pos e1, hu]
      by_cases hv : cR 0 r ≤ 18446744073709551615
      · rw [if_pos hv, if_pos hv]; simp
      · rw [if_neg hv, if_neg hv]
     unfold cy aJ
     rw [hp]
     by_cases hv : cR 0 r ≤ 18446744073709551615
     · rw [if_pos hv]
       by_cases h2 : 9223372036854775808 < cR 0 r
       · rw [if_pos h2]; exact ⟨fun h => absurd h (by simp), fun _ => by omega⟩
       · rw [if_neg h2]; exact ⟨fun _ => by simp, fun h => absurd h (by simp)⟩
     · rw [if_neg hv]; exact ⟨fun h => absurd h (by simp), fun _ => by omega⟩
   · rw [(iu r hc).1] at hne hall ⊢
     rw [(iu r hc).2]
     have hdig : 48 ≤ c.toNat := by
      have := hall
      simp only [bq, af, isD, decide_eq_true_eq] at this; omega
     have hu : Lib.parseUintB 64 (c :: r) = if cR 0 (c :: r) ≤ 18446744073709551615 then .ok (cR 0 (c :: r)) else .range := by
      rw [Lib.parseUintB, if_neg (by simp)]; exact uE _ rfl (c :: r) 0 hall (bA _)
     have hp : Lib.parseIntB 64 (c :: r) = if cR 0 (c :: r) ≤ 18446744073709551615 then (if 9223372036854775808 ≤ cR 0 (c :: r) then .range else .ok (cR 0 (c :: r) : Int)) else .range := by
      simp only [Lib.parseIntB]
      have e1 : ¬ (c.toNat = 43 ∨ c.toNat = 45) := by omega
      have e2 : ¬ c.toNat = 45 := by omega
      rw [if_neg e1, hu]
      by_cases hv : cR 0 (c :: r) ≤ 18446744073709551615
      · rw [if_pos hv, if_pos hv]; simp [e2]
      · rw [if_neg hv, if_neg hv]
     unfold cy aJ
     rw [hp]
     by_cases hv : cR 0 (c :: r) ≤ 18446744073709551615
     · rw [if_pos hv]
       by_cases h2 : 9223372036854775808 ≤ cR 0 (c :: r)
       · rw [if_pos h2]; exact ⟨fun h => absurd h (by simp), fun _ => by omega⟩
       · rw [if_neg h2]; exact ⟨fun _ => by simp, fun h => absurd h (by simp)⟩
     · rw [if_neg hv]; exact ⟨fun h => absurd h (by simp), fun _ => by omega⟩
/-! ### the program's -/
theorem uT (hs : s.length ≤ 281474976710656) : ah Tryz.prog 78 [.s s] [] (qF (a7 s)) [] := by
 have hcl : (bg s [45]).length ≤ s.length := by
  unfold bg
  cases aY s [45]
  · exact ay _
  · simp only [cond_true, ba]; omega
 have hL : ae (bg s [45]) = ((bg s [45]).length : Int) := rfl
 have hpos : (bg s [45] == []) = false → 0 < (bg s [45]).length := fun h => List.length_pos_iff.2 (by simpa using h)
 cases hok : cy s
 · refine dg yx Tryz.func78 (let x1 := (bg s [(45 : UInt8)]); .need ((bg s [(45 : UInt8)] == []) = false → x1.length ≤ 9223372036854775807) (.need ((bg s [(45 : UInt8)] == [] || !iS x1 == []) = false → (0 : Int) ≤ 0 ∧ (0 : Int) < ae x1) (.ite (bg s [(45 : UInt8)] == [] || !iS x1 == [] || (↑((List.getD x1 0 (0 : UInt8)).toNat) : Int) == 48 && (decide (ae x1 > (1 : Int)) || aY s [(45 : UInt8)])) (.ret (.tup [.i 0, .i 1]) []) (.need (s.length ≤ 281474976710656 ∧ cy s = false) (.ite true (.ret (.tup [.i 0, .i 5]) []) (.ret (.tup [.i (aJ s), .i 0]) [])))))) fun Γ => ?_
   conv => zeta
   rw [uq]
   refine ⟨fun _ => by omega, fun h => ?_, fun h => ⟨congrArg qF (a₁ := (0, 1)) ?_, rfl⟩, fun h => ⟨⟨hs, hok⟩, fun _ => ⟨congrArg qF (a₁ := (0, 5)) ?_, rfl⟩, fun h => Bool.noConfusion h⟩⟩
   · simp only [aH] at h
     have := hpos h.1; omega
   · have hb : eS s = true := h
     rw [a7, if_pos hb]
   · have hb : eS s = false := h
     have := (jS hb).2 hok
     rw [a7, if_neg (by rw [hb]; simp), if_pos (by omega)]
 · refine dg Bi Tryz.func78 (let x1 := (bg s [(45 : UInt8)]); .need ((bg s [(45 : UInt8)] == []) = false → x1.length ≤ 9223372036854775807) (.need ((bg s [(45 : UInt8)] == [] || !iS x1 == []) = false → (0 : Int) ≤ 0 ∧ (0 : Int) < ae x1) (.ite (bg s [(45 : UInt8)] == [] || !iS x1 == [] || (↑((List.getD x1 0 (0 : UInt8)).toNat) : Int) == 48 && (decide (ae x1 > (1 : Int)) || aY s [(45 : UInt8)])) (.ret (.tup [.i 0, .i 1]) []) (.need (s.length ≤ 281474976710656 ∧ cy s = true) (.ite (false || decide (aJ s > (1099511627776 : Int)) || decide (aJ s < (-1099511627776 : Int))) (.ret (.tup [.i 0, .i 5]) []) (.ret (.tup [.i (aJ s), .i 0]) [])))))) fun Γ => ?_
   conv => zeta
   rw [uq]
   refine ⟨fun _ => by omega, fun h => ?_, fun h => ⟨congrArg qF (a₁ := (0, 1)) ?_, rfl⟩, fun h => ⟨⟨hs, hok⟩, fun g => ⟨congrArg qF (a₁ := (0, 5)) ?_, rfl⟩, fun g => ⟨congrArg qF (a₁ := (aJ s, 0)) ?_, rfl⟩⟩⟩
   · simp only [aH] at h
     have := hpos h.1; omega
   · have hb : eS s = true := h
     rw [a7, if_pos hb]
   · have hb : eS s = false := h
     have hv := (jS hb).1 hok
     simp only [dj, aF, decide_eq_true_eq] at g
     rw [a7, if_neg (by rw [hb]; simp), if_pos]
     rw [hv] at g
     split at g <;> omega
   · have hb : eS s = false := h
     have hv := (jS hb).1 hok
     simp only [dj, aH, decide_eq_false_iff_not] at g
     rw [a7, if_neg (by rw [hb]; simp), if_neg, hv]
     rw [hv] at g
     split at g <;> omega
structure Rd where
 pos : Int
 out : List Cell
 bad : Int
variable (s : Str) (a b : UInt8) (rest : Str) (x : UInt8) (p : Int) (r : Rd) (k : Int) (y : UInt8)
def Rd.wrong : Rd := ⟨r.pos, r.out, if r.bad < 0 then k else r.bad⟩
def Rd.emit (c : Cell) : Rd := ⟨r.pos, r.out ++ [c], r.bad⟩
def Rd.to : Rd := ⟨k, r.out, r.bad⟩
def bJ : Int := ((s.getD k.toNat 0).toNat : Int)
def aI (op : Int) : Str × Int :=
 bif op == 23 then ([124], 1) else bif op == 22 then ([38], 2) else bif op == 16 then ([61], 3) else bif op == 17 then ([33, 61], 3) else bif op == 18 then ([60], 3) else bif op == 19 then ([60, 61], 3)
 else bif op == 20 then ([62], 3) else bif op == 21 then ([62, 61], 3) else bif op == 11 then ([43], 4) else bif op == 12 then ([45], 4) else bif op == 13 then ([42], 5) else bif op == 14 then ([47], 5) else bif op == 15 then ([37], 5)
 else bif op == 7 then ([45], 6) else bif op == 8 then ([33], 6) else ([], 7)
def opsL : List Int := [17, 19, 21, 18, 20, 16, 23, 22, 11, 12, 13, 14, 15]
def aQ (rest : Str) (p : Int) : List Int → Int × Int
 | [] => (0, 0)
 | op :: l => bif (aI op).2 == p && aY rest (aI op).1 then (op, ae (aI op).1) else aQ rest p l
def aV : Int × Int := aQ rest p opsL
def mN : Int := if a = 43 then 11 else if a = 45 then 12 else if a = 42 then 13 else if a = 47 then 14 else if a = 37 then 15 else if a = 61 then 16 else if a = 60 then 18 else if a = 62 then 20 else if a = 38 then 22 else if a = 124 then 23 else 0
def eX : Int := if b = 61 then (if a = 33 then 17 else if a = 60 then 19 else if a = 62 then 21 else 0) else 0
def fc : Int × Int := if mN a = 0 then (0, 0) else (mN a, 1)
def bG : Str → Int × Int
 | [] => (0, 0)
 | [a] => fc a
 | a :: b :: _ => if eX a b = 0 then fc a else (eX a b, 2)
def gT (c : UInt8) : Bool := (decide ((c.toNat : Int) ≥ 97) && decide ((c.toNat : Int) ≤ 122)) || (decide ((c.toNat : Int) ≥ 48) && decide ((c.toNat : Int) ≤ 57)) || (c.toNat : Int) == 95
def az : Str := (s.drop k.toNat).takeWhile gT
def fM : Str := [116, 114, 117, 101]
def gl : Str := [102, 97, 108, 115, 101]
def inS : Str := [105, 110]
def reS : Str := [114, 101]
def imS : Str := [105, 109]
def fB : Bool := decide (k + ae (az s k) < ae s) && bJ s (k + ae (az s k)) == 40
def bD : Rd := (if r.bad < 0 ∧ (r.pos = ae s ∨ bJ s r.pos ≠ 41) then r.wrong r.pos else r).to (r.pos + 1)
def bK : Int := if bJ s k = 48 then k + 1 else k + ae ((s.drop k.toNat).takeWhile isD)
def c6 : Bool := decide (bK s k < ae s) && bJ s (bK s k) == 105
def cq : Str := (s.take (bK s k).toNat).drop k.toNat
def eA : Cell := ⟨if c6 s k = true then 2 else 1, (a7 (cq s k)).1, []⟩
def bW : Rd :=
 if (a7 (cq s r.pos)).2 ≠ 0 ∨ bI (eA s r.pos) < 0 then r.wrong r.pos
 else (r.to (if c6 s r.pos = true then bK s r.pos + 1 else bK s r.pos)).emit (eA s r.pos)
def inR : Rd :=
 if aP (az s (r.pos + 3)) = false then (r.to (r.pos + 3)).wrong (r.pos + 3)
 else (bD s (r.to (r.pos + 3 + ae (az s (r.pos + 3))))).emit ⟨6, 0, az s (r.pos + 3)⟩
def eD : Rd :=
 if isD (s.getD r.pos.toNat 0) = true then bW s r
 else if az s r.pos = fM then (r.emit ⟨3, 0, []⟩).to (r.pos + 4)
 else if az s r.pos = gl then (r.emit ⟨4, 0, []⟩).to (r.pos + 5)
 else if az s r.pos = inS ∧ fB s r.pos = true then inR s r
 else if aP (az s r.pos) = true then (r.emit ⟨5, 0, az s r.pos⟩).to (r.pos + ae (az s r.pos))
 else r.wrong r.pos
inductive Hd where
 | fin
 | pre (op : Int)
 | par
 | call (op : Int)
 | leaf
def cB : Hd :=
 if k = ae s then .fin else if bJ s k = 45 then .pre 7 else if bJ s k = 33 then .pre 8
 else if isD (s.getD k.toNat 0) = true then .leaf else if bJ s k = 40 then .par
 else if az s k = reS ∧ fB s k = true then .call 9 else if az s k = imS ∧ fB s k = true then .call 10 else .leaf
def atEnd : Prop := ¬ (r.bad < 0 ∧ (aV (s.drop r.pos.toNat) p).1 ≠ 0)
inductive Task where
 | bin (p : Int)
 | loop (p : Int)
 | una
inductive Run (s : Str) : Task → Rd → Rd → Prop where
 | six {r q : Rd} : Run s .una r q → Run s (.bin 6) r q
 | bin {p : Int} {r q o : Rd} : 1 ≤ p → p ≤ 5 → Run s (.bin (p + 1)) r q → Run s (.loop p) q o → Run s (.bin p) r o
 | done {p : Int} {r : Rd} : atEnd s p r → Run s (.loop p) r r
 | more {p : Int} {r q o : Rd} : 1 ≤ p → p ≤ 5 → p ≠ 3 → ¬ atEnd s p r → Run s (.bin (p + 1)) (r.to (r.pos + (aV (s.drop r.pos.toNat) p).2)) q → Run s (.loop p) (q.emit ⟨(aV (s.drop r.pos.toNat) p).1, 0, []⟩) o → Run s (.loop p) r o
 | once {r q : Rd} : ¬ atEnd s 3 r → Run s (.bin 4) (r.to (r.pos + (aV (s.drop r.pos.toNat) 3).2)) q → Run s (.loop 3) r (q.emit ⟨(aV (s.drop r.pos.toNat) 3).1, 0, []⟩)
 | lost {r : Rd} : 0 ≤ r.bad ∨ cB s r.pos = .fin → Run s .una r (r.wrong r.pos)
 | sign {r q : Rd} {op : Int} : r.bad < 0 → cB s r.pos = .pre op → Run s .una (r.to (r.pos + 1)) q → Run s .una r (q.emit ⟨op, 0, []⟩)
 | leaf {r : Rd} : r.bad < 0 → cB s r.pos = .leaf → Run s .una r (eD s r)
 | par {r q : Rd} : r.bad < 0 → cB s r.pos = .par → Run s (.bin 1) (r.to (r.pos + 1)) q → Run s .una r (bD s q)
 | call {r q : Rd} {op : Int} : r.bad < 0 → cB s r.pos = .call op → Run s (.bin 1) (r.to (r.pos + 3)) q → Run s .una r ((bD s q).emit ⟨op, 0, []⟩)
/-! ### signs -/
theorem oh : aY [a] [x] = (a == x) := by simp [aY, ae]
theorem mo : aY [a] [x, y] = false := by simp [aY, ae]
theorem oq (r : Str) : aY (a :: b :: r) [x] = (a == x) := by
 have h : decide (ae (a :: b :: r) ≥ ae [x]) = true := decide_eq_true (by simp [ae]; omega)
 rw [aY, h]
 show ([a] == [x]) = _
 simp
theorem mM (r : Str) : aY (a :: b :: r) [x, y] = (a == x && b == y) := by
 have h : decide (ae (a :: b :: r) ≥ ae [x, y]) = true := decide_eq_true (by simp [ae]; omega)
 rw [aY, h]
 show ([a, b] == [x, y]) = _
 simp
theorem tW (h1 : 1 ≤ p) (h5 : p ≤ 5) : aV [a] p = if (aI (bG [a]).1).2 = p then bG [a] else (0, 0) := by
 have hp : p = 1 ∨ p = 2 ∨ p = 3 ∨ p = 4 ∨ p = 5 := by omega
 by_cases e0 : a = 43
 · subst e0; rcases hp with rfl | rfl | rfl | rfl | rfl <;> rfl
 by_cases e1 : a = 45
 · subst e1; rcases hp with rfl | rfl | rfl | rfl | rfl <;> rfl
 by_cases e2 : a = 42
 · subst e2; rcases hp with rfl | rfl | rfl | rfl | rfl <;> rfl
 by_cases e3 : a = 47
 · subst e3; rcases hp with rfl | rfl | rfl | rfl | rfl <;> rfl
 by_cases e4 : a = 37
 · subst e4; rcases hp with rfl | rfl | rfl | rfl | rfl <;> rfl
 by_cases e5 : a = 61
 · subst e5; rcases hp with rfl | rfl | rfl | rfl | rfl <;> rfl
 by_cases e6 : a = 60
 · subst e6; rcases hp with rfl | rfl | rfl | rfl | rfl <;> rfl
 by_cases e7 : a = 62
 · subst e7; rcases hp with rfl | rfl | rfl | rfl | rfl <;> rfl
 by_cases e8 : a = 38
 · subst e8; rcases hp with rfl | rfl | rfl | rfl | rfl <;> rfl
 by_cases e9 : a = 124
 · subst e9; rcases hp with rfl | rfl | rfl | rfl | rfl <;> rfl
 have q : ∀ x : UInt8, ¬ a = x → (a == x) = false := fun x h => beq_eq_false_iff_ne.2 h
 have e : bG [a] = (0, 0) := by simp only [bG, fc, mN, e0, e1, e2, e3, e4, e5, e6, e7, e8, e9, if_false, if_true]
 rw [e]
 have hs : (aI ((0, 0) : Int × Int).1).2 ≠ p := by show (7 : Int) ≠ p; omega
 rw [if_neg hs]
 simp [aV, opsL, aQ, aI, oh, mo, q _ e0, q _ e1, q _ e2, q _ e3, q _ e4, q _ e5, q _ e6, q _ e7, q _ e8, q _ e9]
theorem AJ (r : Str) (p : Int) (h : (b == 61) = false ∨ (a == 33) = false ∧ (a == 60) = false ∧ (a == 62) = false) : aV (a :: b :: r) p = aV [a] p ∧ bG (a :: b :: r) = bG [a] := by
 refine ⟨?_, ?_⟩
 · rcases h with h | ⟨h1, h2, h3⟩
   · simp [aV, opsL, aQ, aI, oh, mo, oq, mM, h]
   · simp [aV, opsL, aQ, aI, oh, mo, oq, mM, h1, h2, h3]
 · have e : eX a b = 0 := by
    unfold eX
    rcases h with h | ⟨h1, h2, h3⟩
    · rw [if_neg (by simpa using h)]
    · have g1 : ¬ a = 33 := by simpa using h1
      have g2 : ¬ a = 60 := by simpa using h2
      have g3 : ¬ a = 62 := by simpa using h3
      simp [g1, g2, g3]
   simp only [bG, e, if_true]
theorem B8 (r : Str) (p : Int) (h1 : 1 ≤ p) (h5 : p ≤ 5) (ha : a = 33 ∨ a = 60 ∨ a = 62) : aV (a :: 61 :: r) p = if (aI (bG (a :: 61 :: r)).1).2 = p then bG (a :: 61 :: r) else (0, 0) := by
 have hp : p = 1 ∨ p = 2 ∨ p = 3 ∨ p = 4 ∨ p = 5 := by omega
 rcases ha with rfl | rfl | rfl <;> rcases hp with rfl | rfl | rfl | rfl | rfl <;> simp [aV, opsL, aQ, aI, oq, mM, bG, eX, ae]
theorem wv (h1 : 1 ≤ p) (h5 : p ≤ 5) : aV rest p = if (aI (bG rest).1).2 = p then bG rest else (0, 0) := by
 match rest with
 | [] =>
   have hp : p = 1 ∨ p = 2 ∨ p = 3 ∨ p = 4 ∨ p = 5 := by omega
   rcases hp with rfl | rfl | rfl | rfl | rfl <;> rfl
 | [a] => exact tW a p h1 h5
 | a :: b :: r =>
   by_cases h : (b == 61) = false ∨ (a == 33) = false ∧ (a == 60) = false ∧ (a == 62) = false
   · obtain ⟨e1, e2⟩ := AJ a b r p h
     rw [e1, e2]; exact tW a p h1 h5
   · simp only [not_or, Bool.not_eq_false, beq_iff_eq] at h
     obtain ⟨rfl, h⟩ := h
     refine B8 a r p h1 h5 ?_
     by_cases h3 : a = 33
     · exact .inl h3
     · by_cases h4 : a = 60
       · exact .inr (.inl h4)
       · by_cases h6 : a = 62
         · exact .inr (.inr h6)
         · exact absurd ⟨beq_eq_false_iff_ne.2 h3, beq_eq_false_iff_ne.2 h4, beq_eq_false_iff_ne.2 h6⟩ h
theorem uK : bG rest = (0, 0) ∨ (11 ≤ (bG rest).1 ∧ (bG rest).1 ≤ 23 ∧ 1 ≤ (bG rest).2 ∧ (bG rest).2 ≤ ae rest ∧ (bG rest).2 ≤ 2 ∧ 1 ≤ (aI (bG rest).1).2 ∧ (aI (bG rest).1).2 ≤ 5) := by
 have key : ∀ a : UInt8, fc a = (0, 0) ∨ (11 ≤ (fc a).1 ∧ (fc a).1 ≤ 23 ∧ (fc a).2 = 1 ∧ 1 ≤ (aI (fc a).1).2 ∧ (aI (fc a).1).2 ≤ 5) := by
  intro a
  unfold fc mN
  repeat' split
  all_goals first | (left; rfl) | (right; decide) | skip
  all_goals simp at *
 match rest with
 | [] => exact .inl rfl
 | [a] =>
   rcases key a with h | ⟨h1, h2, h3, h4, h5⟩
   · exact .inl h
   · right
     have e : (bG [a]).2 = 1 := h3
     have hl : ae [a] = 1 := rfl
     refine ⟨h1, h2, ?_, ?_, ?_, h4, h5⟩ <;> omega
 | a :: b :: r =>
   have hl : ae (a :: b :: r) = (r.length : Int) + 2 := by simp [ae]; omega
   by_cases h2 : eX a b = 0
   · have e : bG (a :: b :: r) = fc a := by simp only [bG, h2, if_true]
     rw [e, hl]
     rcases key a with h | ⟨h1, h2, h3, h4, h5⟩
     · exact .inl h
     · right; exact ⟨h1, h2, by omega, by omega, by omega, h4, h5⟩
   · have e : bG (a :: b :: r) = (eX a b, 2) := by simp only [bG, h2, if_false]
     rw [e, hl]
     right
     have ht : eX a b = 17 ∨ eX a b = 19 ∨ eX a b = 21 := by
      unfold eX at h2 ⊢
      repeat' (split at h2)
      all_goals first | (exact absurd rfl h2) | skip
      · rename_i g1 g2; rw [if_pos g1, if_pos g2]; exact .inl rfl
      · rename_i g1 g2 g3; rw [if_pos g1, if_neg g2, if_pos g3]; exact .inr (.inl rfl)
      · rename_i g1 g2 g3 g4; rw [if_pos g1, if_neg g2, if_neg g3, if_pos g4]; exact .inr (.inr rfl)
     rcases ht with e | e | e <;> rw [e] <;> exact ⟨by decide, by decide, by decide, by show (2 : Int) ≤ _; omega, by decide, by decide, by decide⟩
end Go.Proofs.YtpfidgnkokidoaaGreatDoor

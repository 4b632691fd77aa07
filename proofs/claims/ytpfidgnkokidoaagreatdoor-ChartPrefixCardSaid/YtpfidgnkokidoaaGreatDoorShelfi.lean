/- Plain: a chart's text, its lines, read. Conditions: none. Plain: what is read, its cases; the example. Conditions: none. The library's contracts of the shelf, laid at this dump by the kit's tools. Conditions: each one's own. -/
import Derived.Test.YtpfidgnkokidoaaGreatDoorWa
import Derived.Test.YtpfidgnkokidoaaGreatDoorWj
import Derived.Test.YtpfidgnkokidoaaGreatDoorId
import Derived.Shelf.Lays
import Derived.Shelf.Strings.Runes
import Derived.Shelf.Strings.AsciiSet
import Derived.Test.YtpfidgnkokidoaaGreatDoorProg
namespace Go.Proofs.YtpfidgnkokidoaaGreatDoor
open Go Go.Ev
set_option maxRecDepth 100000
/-! ### lines -/
def cf : Str → Str → List Str
 | cur, [] => [cur]
 | cur, c :: r => bif c == 10 then cur :: cf [] r else cf (cur ++ [c]) r
variable {c : Chart} {n : Nat} (s : Str)
def nd : Bool := s.getLast? == some 10
def fA : Str := if nd s = true then s.dropLast else s
def cm : List Str := cf [] (fA s)
theorem rA : ∀ (s cur : Str), (10 : UInt8) ∉ s → cf cur s = [cur ++ s]
 | [], cur, _ => by simp [cf]
 | c :: r, cur, h => by
   simp only [aS, not_or] at h
   have hc : (c == 10) = false := by simpa using fun e => h.1 e.symm
   rw [cf, hc, cond_false, rA r _ h.2]; simp
theorem uo : ∀ (a cur b : Str), (10 : UInt8) ∉ a → cf cur (a ++ 10 :: b) = (cur ++ a) :: cf [] b
 | [], cur, b, _ => by simp [cf]
 | c :: r, cur, b, h => by
   simp only [aS, not_or] at h
   have hc : (c == 10) = false := by simpa using fun e => h.1 e.symm
   rw [bE, cf, hc, cond_false, uo r _ b h.2]; simp
theorem ma : ∀ (k : Nat) (s : Str), Lib.count s [10] = k → Lib.splitK [10] 0 k s = cf [] s
 | 0, s, h => by
   rw [Lib.count_one] at h
   rw [rA s [] (List.count_eq_zero.1 h)]; rfl
 | k + 1, s, h => by
   rcases kV s 10 with ⟨h1, _⟩ | ⟨a, r, rfl, h2, h3⟩
   · rw [Lib.count_miss h1] at h; omega
   · have h4 := Lib.count_hit (by simp) h3
     have e : (a ++ 10 :: r).drop (a.length + 1) = r := by
      rw [← dW, dV]; rfl
     rw [show ([10] : Str).length = 1 from rfl, e] at h4
     rw [Lib.splitK, if_neg (by rw [h3]; simp), h3, bx, show ([10] : Str).length = 1 from rfl, e, bC, List.take_left, uo a [] r h2, ma k r (by omega)]; rfl
theorem vk : (Lib.splitB ⟨#[10]⟩ 0 (Lib.countB (bs s) ⟨#[10]⟩) (bs s)).map (·.data.toList) = cf [] s := by
 rw [Lib.splitB_data]
 have e : (bs s).data.toList = s := bX s
 rw [e]
 exact ma _ s (by show Lib.count s [10] = Lib.count (bs s).data.toList _; rw [e])
theorem ob : ∀ (s cur : Str), (cf cur s).length = s.countP (· == 10) + 1
 | [], cur => rfl
 | c :: r, cur => by
   rw [cf, List.countP_cons]
   cases h : c == 10
   · rw [cond_false, ob r]; simp
   · rw [cond_true, ak, ob r]; simp
theorem nU : (cf [] s).length ≤ s.length + 1 := by
 rw [ob]; have := List.countP_le_length (p := (· == (10 : UInt8))) (l := s); omega
theorem ou : ∀ (s cur : Str), ∀ p ∈ cf cur s, p.length ≤ cur.length + s.length
 | [], cur, p, h => by simp [cf] at h; subst h; simp
 | c :: r, cur, p, h => by
   rw [cf] at h
   cases hc : c == 10
   · rw [hc, cond_false] at h
     have := ou r (cur ++ [c]) p h
     simp only [aj, ak, au] at this ⊢; omega
   · rw [hc, cond_true] at h
     rcases aS.1 h with rfl | h
     · simp
     · have := ou r [] p h
       simp only [au, ak] at this ⊢; omega
theorem jn : (fA s).length ≤ s.length := by
 unfold fA; split
 · rw [List.length_dropLast]; omega
 · exact ay _
theorem qG : (cm s).length ≤ s.length + 1 := by
 have h1 := nU (fA s); have h2 := jn s
 show (cf [] (fA s)).length ≤ _; omega
theorem vr {s p : Str} (h : p ∈ cm s) : p.length ≤ s.length := by
 have h1 := ou (fA s) [] p h
 have h2 := jn s
 simp only [au] at h1; omega
/-! ### points -/
def fj (a b : Int) : Str := Lib.itoa a ++ (if b < 0 then [] else [43]) ++ Lib.itoa b ++ [105]
def kJ (p : Int × Int) : Prop := pIn p.1 = true ∧ pIn p.2 = true ∧ fj p.1 p.2 = s
open Classical in
noncomputable def yc : Option (Int × Int) := if h : ∃ p, kJ s p then some h.choose else none
def eg : Prop := ∃ p, kJ s p
noncomputable def ptA : Int := match yc s with | some p => p.1 | none => 0
noncomputable def ptB : Int := match yc s with | some p => p.2 | none => 0
theorem lf {s : Str} (h : eg s) : kJ s (ptA s, ptB s) := by
 have e : yc s = some h.choose := dif_pos h
 unfold ptA ptB
 rw [e]
 exact h.choose_spec
/-! ### a line -/
noncomputable def gI (c : Chart) (d : Int) (w : List Str) : Option Chart := by
 classical exact if dF c d w 4 = true ∧ (a7 (ar w 1)).2 = 0 ∧ (a7 (ar w 2)).2 = 0 ∧ eg (ar w 3) then some { c with vars := c.vars ++ [⟨ar w 0, 3, (a7 (ar w 1)).1, (a7 (ar w 2)).1, ⟨3, ptA (ar w 3), ptB (ar w 3)⟩⟩] } else none
noncomputable def dY (c : Chart) (d : Int) (k : Str) (w : List Str) : Option Chart :=
 if k = lI then iz c d w else if k = tT then lF c d w else if k = oI then jF c d w else if k = l5 then gI c d w
 else if k = mz then aD 1 1 c d w else if k = o1 then aD 3 1 c d w else if k = lS then aD 4 1 c d w
 else if k = sM then aD 2 2 c d w else if k = js then aD 5 2 c d w else if k = oH then aD 6 2 c d w
 else if k = l9 then gk c d w else if k = pF then hU c d w else if k = wOn then onC c d w else none
def se (c : Chart) (l : Str) : Option Chart :=
 if bt l = 0 ∧ (bm l).length = 2 ∧ ar (bm l) 0 = Bl ∧ aP (ar (bm l) 1) = true then some { c with name := ar (bm l) 1 } else none
noncomputable def dE (c : Chart) (k : Nat) (l : Str) : Option Chart :=
 if fk l = true then (if k = 0 then se c l else dY c (bt l : Nat) (ar (bm l) 0) ((bm l).drop 1)) else none
def dh : Chart := ⟨[], [], [], [], []⟩
noncomputable def di : Chart → Nat → List Str → Chart × Option Nat
 | c, _, [] => (c, none)
 | c, k, l :: r => match dE c k l with
   | some c' => di c' (k + 1) r
   | none => (dh, some k)
noncomputable def bf : Chart × Int × Int := if 6000 < s.length then (dh, 0, 4) else match di dh 0 (cm s) with
 | (c, none) => (c, 0, 0)
 | (_, some k) => (dh, (k : Int) + 1, 1)
def dR : Prop := (bf s).2.2 = 0
/-! ### how much may stand in a chart that is read -/
structure Fit (c : Chart) (n : Nat) : Prop where
 events : c.events.length ≤ n
 vars : c.vars.length ≤ n
 states : c.states.length ≤ n
 trans : c.trans.length ≤ n
 depth : ∀ s ∈ c.states, 0 ≤ s.depth ∧ s.depth ≤ 6000
theorem Fit.zero : Fit dh 0 := ⟨ay _, ay _, ay _, ay _, by simp [dh]⟩
theorem Fit.le {m : Nat} (h : Fit c n) (hm : n ≤ m) : Fit c m := ⟨a6 h.1 hm, a6 h.2 hm, a6 h.3 hm, a6 h.4 hm, h.5⟩
theorem dz {α : Type} {p : Prop} {inst : Decidable p} {x y : α} (h : (if p then some x else none) = some y) : p ∧ x = y := by
 split at h
 · rename_i hp; exact ⟨hp, al h⟩
 · cases h
theorem Fit.last (h : Fit c n) {s :  Ev.Stat} (hs : c.states.getLast? = some s) : 0 ≤ s.depth ∧ s.depth ≤ 6000 := h.depth s (List.mem_of_getLast? hs)
theorem Fit.room (h : Fit c n) : 0 ≤ gr c ∧ gr c ≤ 6001 := by
 unfold gr
 cases hs : c.states.getLast? with
 | none => simp
 | some s => have := h.last hs; simp only; omega
theorem Fit.put (h : Fit c n) {s s' : Ev.Stat} (hs : c.states.getLast? = some s) (hd : s'.depth = s.depth) : Fit { c with states := c.states.dropLast ++ [s'] } n := by
 have hl : c.states.length ≠ 0 := by
  intro e; rw [bP] at e; rw [e] at hs; cases hs
 refine ⟨h.1, h.2, ?_, h.4, ?_⟩
 · have := h.3; simp only [aj, List.length_dropLast, ak, au]; omega
 · intro x hx
   simp only [bb, aU] at hx
   rcases hx with hx | rfl
   · exact h.depth x (List.dropLast_subset _ hx)
   · rw [hd]; exact h.last hs
theorem Fit.line {c' : Chart} {n k : Nat} {l : Str} (h : Fit c n) (hl : l.length ≤ 6000) (e : dE c k l = some c') : Fit c' (n + 1) := by
 have hl' := tD l
 unfold dE at e
 obtain ⟨_, e⟩ : _ ∧ _ := by
  by_cases hk : fk l = true
  · rw [if_pos hk] at e; exact ⟨hk, e⟩
  · rw [if_neg hk] at e; cases e
 split at e
 · unfold se at e
   obtain ⟨_, rfl⟩ := dz e
   exact ⟨aT h.1, aT h.2, aT h.3, aT h.4, h.5⟩
 · unfold dY at e
   have st : ∀ (kind : Int) (m : Nat) (w : List Str), aD kind m c (bt l : Nat) w = some c' → Fit c' (n + 1) := fun kind m w e => by
    unfold aD at e
    obtain ⟨_, rfl⟩ := dz e
    refine ⟨aT h.1, aT h.2, by have := h.3; simp; omega, aT h.4, fun x hx => ?_⟩
    simp only [bb, aU] at hx
    rcases hx with hx | rfl
    · exact h.depth x hx
    · simp only; omega
   generalize ar (bm l) 0 = k at e
   generalize (bm l).drop 1 = w at e
   by_cases k0 : k = lI
   · rw [if_pos k0] at e
     unfold iz at e; obtain ⟨_, rfl⟩ := dz e
     exact ⟨by have := h.1; simp; omega, aT h.2, aT h.3, aT h.4, h.5⟩
   rw [if_neg k0] at e
   by_cases k1 : k = tT
   · rw [if_pos k1] at e
     unfold lF at e; obtain ⟨_, rfl⟩ := dz e
     exact ⟨aT h.1, by have := h.2; simp; omega, aT h.3, aT h.4, h.5⟩
   rw [if_neg k1] at e
   by_cases k2 : k = oI
   · rw [if_pos k2] at e
     unfold jF at e; obtain ⟨_, rfl⟩ := dz e
     exact ⟨aT h.1, by have := h.2; simp; omega, aT h.3, aT h.4, h.5⟩
   rw [if_neg k2] at e
   by_cases k3 : k = l5
   · rw [if_pos k3] at e
     unfold gI at e; obtain ⟨_, rfl⟩ := dz e
     exact ⟨aT h.1, by have := h.2; simp; omega, aT h.3, aT h.4, h.5⟩
   rw [if_neg k3] at e
   by_cases k4 : k = mz
   · rw [if_pos k4] at e
     exact st _ _ _ e
   rw [if_neg k4] at e
   by_cases k5 : k = o1
   · rw [if_pos k5] at e
     exact st _ _ _ e
   rw [if_neg k5] at e
   by_cases k6 : k = lS
   · rw [if_pos k6] at e
     exact st _ _ _ e
   rw [if_neg k6] at e
   by_cases k7 : k = sM
   · rw [if_pos k7] at e
     exact st _ _ _ e
   rw [if_neg k7] at e
   by_cases k8 : k = js
   · rw [if_pos k8] at e
     exact st _ _ _ e
   rw [if_neg k8] at e
   by_cases k9 : k = oH
   · rw [if_pos k9] at e
     exact st _ _ _ e
   rw [if_neg k9] at e
   by_cases k10 : k = l9
   · rw [if_pos k10] at e
     unfold gk at e
     split at e
     · rename_i s hs
       obtain ⟨_, rfl⟩ := dz e
       exact (h.put (s' := { s with entry := (aK (ar w 0)).1 }) hs rfl).le (Nat.le_succ n)
     · cases e
   rw [if_neg k10] at e
   by_cases k11 : k = pF
   · rw [if_pos k11] at e
     unfold hU at e
     split at e
     · rename_i s hs
       obtain ⟨_, rfl⟩ := dz e
       exact (h.put (s' := { s with leave := (aK (ar w 0)).1 }) hs rfl).le (Nat.le_succ n)
     · cases e
   rw [if_neg k11] at e
   by_cases k12 : k = wOn
   · rw [if_pos k12] at e
     unfold onC at e; obtain ⟨_, rfl⟩ := dz e
     exact ⟨aT h.1, aT h.2, aT h.3, by have := h.4; simp; omega, h.5⟩
   rw [if_neg k12] at e
   cases e
theorem fH : ∀ (a : List Str) (c : Chart) (k : Nat) (b : List Str), di c k (a ++ b) = match di c k a with | (c', none) => di c' (k + a.length) b | x => x
 | [], c, k, b => rfl
 | l :: a, c, k, b => by
   simp only [bE, di]
   cases dE c k l with
   | none => rfl
   | some c' =>
     simp only [fH a c' (k + 1) b, ak, eU, Nat.add_comm 1]
theorem jD (s : Str) : (6000 < s.length ∧ bf s = (dh, 0, 4)) ∨ (¬ 6000 < s.length ∧ ((∃ c, di dh 0 (cm s) = (c, none) ∧ bf s = (c, 0, 0)) ∨ ∃ k, (di dh 0 (cm s)).2 = some k ∧ bf s = (dh, (k : Int) + 1, 1))) := by
 by_cases h : 6000 < s.length
 · exact .inl ⟨h, by rw [bf, if_pos h]⟩
 · refine .inr ⟨h, ?_⟩
   rcases e : di dh 0 (cm s) with ⟨c, _ | k⟩
   · exact .inl ⟨c, rfl, by rw [bf, if_neg h, e]⟩
   · exact .inr ⟨k, rfl, by rw [bf, if_neg h, e]⟩
theorem nI {s : Str} (h : dR s) : s.length ≤ 6000 ∧ di dh 0 (cm s) = ((bf s).1, none) ∧ bf s = ((bf s).1, 0, 0) := by
 have h0 : (bf s).2.2 = 0 := h
 rcases jD s with ⟨_, e⟩ | ⟨h1, ⟨c, e1, e⟩ | ⟨k, _, e⟩⟩
 · rw [e] at h0
   have h5 : (4 : Int) = 0 := h0
   exact absurd h5 (by decide)
 · rw [e]; exact ⟨by omega, e1, rfl⟩
 · rw [e] at h0
   have h5 : (1 : Int) = 0 := h0
   exact absurd h5 (by decide)
def ex1 : Str := [99, 104, 97, 114, 116, 32, 99, 10, 111, 110, 101, 32, 114, 32, 97, 10, 32, 98, 97, 115, 105, 99, 32, 97, 10, 32, 32, 111, 110, 32, 103, 111, 32, 45, 32, 45, 32, 45, 10]
def ex2 : Str := [99, 104, 97, 114, 116, 32, 99, 10, 32, 98, 97, 115, 105, 99, 32, 97]
def exC : Chart := ⟨[99], [], [], [⟨[114], 2, 0, [97], [], []⟩, ⟨[97], 1, 1, [], [], []⟩], [⟨1, [103, 111], [], [], []⟩]⟩
theorem B5 : cm ex2 = [[99, 104, 97, 114, 116, 32, 99], [32, 98, 97, 115, 105, 99, 32, 97]] := by decide +kernel
theorem AW : dE dh 0 [99, 104, 97, 114, 116, 32, 99] = some { dh with name := [99] } := rfl
theorem Fs : dE { dh with name := [99] } 1 [32, 98, 97, 115, 105, 99, 32, 97] = none := rfl
theorem yJ : bf ex2 = (dh, 2, 1) := by
 unfold bf
 rw [if_neg (by decide), B5]
 simp only [di, AW, Fs]
 rfl
theorem A0 : cm ex1 = [[99, 104, 97, 114, 116, 32, 99], [111, 110, 101, 32, 114, 32, 97], [32, 98, 97, 115, 105, 99, 32, 97], [32, 32, 111, 110, 32, 103, 111, 32, 45, 32, 45, 32, 45]] := by decide +kernel
def exA : Chart := ⟨[99], [], [], [⟨[114], 2, 0, [97], [], []⟩], []⟩
def exB : Chart := ⟨[99], [], [], [⟨[114], 2, 0, [97], [], []⟩, ⟨[97], 1, 1, [], [], []⟩], []⟩
theorem GT : dE { dh with name := [99] } 1 [111, 110, 101, 32, 114, 32, 97] = some exA := rfl
theorem GE : dE exA 2 [32, 98, 97, 115, 105, 99, 32, 97] = some exB := rfl
theorem GW : dE exB 3 [32, 32, 111, 110, 32, 103, 111, 32, 45, 32, 45, 32, 45] = some exC := by
 show onC exB 2 [[103, 111], [45], [45], [45]] = some exC
 unfold onC
 rw [if_pos ⟨rfl, rfl, .inr rfl, .inl rfl, .inl rfl, .inl rfl⟩]
 have e : ∀ {α : Type} (x : List α), (if ar [[103, 111], [45], [45], [45]] 1 = dash then [] else x) = [] := fun _ => if_pos rfl
 have e2 : (if ar [[103, 111], [45], [45], [45]] 2 = dash then [] else ar [[103, 111], [45], [45], [45]] 2) = [] := if_pos rfl
 have e3 : ∀ {α : Type} (x : List α), (if ar [[103, 111], [45], [45], [45]] 3 = dash then [] else x) = [] := fun _ => if_pos rfl
 have e0 : (if ar [[103, 111], [45], [45], [45]] 0 = dash then [] else ar [[103, 111], [45], [45], [45]] 0) = [103, 111] := if_neg (by decide)
 rw [e, e2, e3, e0]; rfl
theorem vv : bf ex1 = (exC, 0, 0) := by
 unfold bf
 rw [if_neg (by decide), A0]
 simp only [di, Nat.reduceAdd, AW, GT, GE, GW]
end Go.Proofs.YtpfidgnkokidoaaGreatDoor
namespace Go.Proofs
open Go.Shelf
def Tryz.lays152_ren : Go.Shelf.Ren := ⟨fun | 152 => 153 | 137 => 184 | 119 => 185 | 224 => 167 | 225 => 166 | 217 => 165 | 266 => 191 | n => n, fun | 9 => 9 | 21 => 21 | 3 => 3 | 4 => 4 | 5 => 5 | 0 => 0 | 46 => 145 | n => n, fun | n => n⟩
theorem Tryz.lays152 : Go.Proofs.Lays.n152 Tryz.prog Tryz.lays152_ren := {
 mixed := by kernel_rfl
 f119 := Tryz.func185.trans (congrArg some (by kernel_rfl))
 f137 := Tryz.func184.trans (congrArg some (by kernel_rfl))
 f152 := Tryz.func153.trans (congrArg some (by kernel_rfl))
 f217 := Tryz.func165.trans (congrArg some (by kernel_rfl))
 f224 := Tryz.func167.trans (congrArg some (by kernel_rfl))
 f225 := Tryz.func166.trans (congrArg some (by kernel_rfl))
 f266 := Tryz.func191.trans (congrArg some (by kernel_rfl))
 t0 := Tryz.underlying0
 a0 := Tryz.isAgg0
 z0 := Tryz.sizeOf0
 v0 := Tryz.zeroValue0
 t3 := Tryz.underlying3
 a3 := Tryz.isAgg3
 z3 := Tryz.sizeOf3
 v3 := Tryz.zeroValue3
 t4 := Tryz.underlying4
 a4 := Tryz.isAgg4
 z4 := Tryz.sizeOf4
 v4 := Tryz.zeroValue4
 t5 := Tryz.underlying5
 a5 := Tryz.isAgg5
 z5 := Tryz.sizeOf5
 v5 := Tryz.zeroValue5
 t9 := Tryz.underlying9
 a9 := Tryz.isAgg9
 z9 := Tryz.sizeOf9
 v9 := Tryz.zeroValue9
 t21 := Tryz.underlying21
 a21 := Tryz.isAgg21
 z21 := Tryz.sizeOf21
 v21 := Tryz.zeroValue21
 t46 := Tryz.underlying145
 a46 := Tryz.isAgg145
 z46 := Tryz.sizeOf145
 v46 := Tryz.zeroValue145 }
def Tryz.lays227_ren : Go.Shelf.Ren := ⟨fun | 227 => 146 | n => n, fun | 9 => 9 | 116 => 190 | 4 => 4 | 0 => 0 | 3 => 3 | 5 => 5 | n => n, fun | n => n⟩
theorem Tryz.lays227 : Go.Proofs.Lays.n227 Tryz.prog Tryz.lays227_ren := {
 mixed := by kernel_rfl
 f227 := Tryz.func146.trans (congrArg some (by kernel_rfl))
 t0 := Tryz.underlying0
 a0 := Tryz.isAgg0
 z0 := Tryz.sizeOf0
 v0 := Tryz.zeroValue0
 t3 := Tryz.underlying3
 a3 := Tryz.isAgg3
 z3 := Tryz.sizeOf3
 v3 := Tryz.zeroValue3
 t4 := Tryz.underlying4
 a4 := Tryz.isAgg4
 z4 := Tryz.sizeOf4
 v4 := Tryz.zeroValue4
 t5 := Tryz.underlying5
 a5 := Tryz.isAgg5
 z5 := Tryz.sizeOf5
 v5 := Tryz.zeroValue5
 t9 := Tryz.underlying9
 a9 := Tryz.isAgg9
 z9 := Tryz.sizeOf9
 v9 := Tryz.zeroValue9
 t116 := Tryz.underlying190
 a116 := Tryz.isAgg190
 z116 := Tryz.sizeOf190 }
def Tryz.lays228_ren : Go.Shelf.Ren := ⟨fun | 228 => 155 | n => n, fun | 124 => 194 | 5 => 5 | 4 => 4 | 0 => 0 | 116 => 190 | n => n, fun | n => n⟩
theorem Tryz.lays228 : Go.Proofs.Lays.n228 Tryz.prog Tryz.lays228_ren := {
 mixed := by kernel_rfl
 f228 := Tryz.func155.trans (congrArg some (by kernel_rfl))
 t0 := Tryz.underlying0
 a0 := Tryz.isAgg0
 z0 := Tryz.sizeOf0
 v0 := Tryz.zeroValue0
 t4 := Tryz.underlying4
 a4 := Tryz.isAgg4
 z4 := Tryz.sizeOf4
 v4 := Tryz.zeroValue4
 t5 := Tryz.underlying5
 a5 := Tryz.isAgg5
 z5 := Tryz.sizeOf5
 v5 := Tryz.zeroValue5
 t116 := Tryz.underlying190
 a116 := Tryz.isAgg190
 z116 := Tryz.sizeOf190
 t124 := Tryz.underlying194
 a124 := Tryz.isAgg194
 z124 := Tryz.sizeOf194
 v124 := Tryz.zeroValue194 }
open Go.RowKit Go.Lib in
theorem Tryz.strings_IndexRune_ascii (s : ByteArray) (r : Int) (w : World) (h0 : 0 ≤ r) (h1 : r < 128) :
 Calls Tryz.prog 153 #[.string s, .int .i32 r] w fun e w' => e = .returned (.int .i64 (Lib.indexByte s.data.toList r.toNat.toUInt8)) ∧ w' = w := Any.strings_IndexRune_ascii Tryz.lays152 s r w h0 h1
open Go.RowKit Go.Lib in
theorem Tryz.strings_makeASCIISet (hv116 : ∀ w, (zeroValue 190).run Tryz.prog w = .ok (.agg (Array.replicate 256 (.bool false))) w) (chars : ByteArray) (w : World) (hs : chars.size < 4294967281) (hascii : ∀ (j : Nat) b, chars.data.toList[j]? = some b → b.toNat < 128) :
 Calls Tryz.prog 146 #[.string chars] w fun e w' => e = .returned (.tuple #[.agg (Lib.setCells chars.data.toList), .bool true]) ∧ w' = w.alloc (.cells (Lib.setCells chars.data.toList) 190) := Any.strings_makeASCIISet Tryz.lays227 hv116 (by kernel_rfl) chars w hs hascii
open Go.RowKit Go.Lib in
theorem Tryz.asciiSet_contains (b : Nat) (x : UInt8) (v : Bool) (w : World) (hc : w.cell? ⟨b, x.toNat, none⟩ = some (.bool v)) :
 Calls Tryz.prog 155 #[.pointer (some ⟨b, 0, none⟩), .int .u8 x.toNat] w fun e w' => e = .returned (.bool v) ∧ w' = w := Any.asciiSet_contains Tryz.lays228 b x v w hc
end Go.Proofs

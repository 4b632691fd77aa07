/- Contracts of the document's reader of expressions: what stands behind an operand. Conditions: places within the text. -/
import Derived.Test.YtpfidgnkokidoaaGreatDoorMq
namespace Go.Proofs.YtpfidgnkokidoaaGreatDoor
open Go Go.Ev
set_option maxRecDepth 100000
abbrev zJ170Mr := J Tryz.prog 170 (az Tryz.f170)
def BA (root : Code) (p : List Nat) (i : Nat) (st : ST) (v : SX) : Option ST :=
 match (opsOf (sub root p))[i]? with
 | some o => match o.guard, o.dst with
   | some (j, true), some d => match ((opsOf (sub root p))[j]?).bind (·.dst) with
     | some s => match lookup st.fr s with
       | some (.x (.c (.pd (.bool false)))) => bif Nat.blt d st.n && !Nat.beq s d then some { st with fr := dV d (.grd s true v) st.fr } else none
       | _ => none
     | none => none
   | _, _ => none
 | none => none
theorem J.skip {P : Program} {f : FuncId} {root : Code} {Γ : Ctx} {Q : Out} {st st' : ST} {p : List Nat} {i : Nat} {k : List PI} {v : SX} (h : BA root p i st v = some st') (hk : J P f root Γ Q (.ops p (i + 1) :: k) st') : J P f root Γ Q (.ops p i :: k) st := by
 unfold BA at h
 split at h
 · rename_i o ho
   split at h
   · rename_i j d hg hd
     split at h
     · rename_i s hs
       split at h
       · rename_i hb
         cases hbb : (Nat.blt d st.n && !Nat.beq s d)
         · rw [hbb] at h; cases h
         · rw [hbb] at h
           simp only [cond_true, Option.some.injEq] at h
           subst h
           simp only [Bool.and_eq_true, Bool.not_eq_true'] at hbb
           have hdn : d < st.n := Nat.le_of_ble_eq_true hbb.1
           have hsd : s ≠ d := fun e => by rw [e] at hbb; simp at hbb
           intro hT V a w r
           have hoff : ¬ a.tmps.getD s undef = .bool true := by
            have := r.slots s _ (dp hb)
            have h2 : SX.R V (.c (.pd (.bool false))) (a.tmps.getD s undef) := this
            generalize a.tmps.getD s undef = u at h2 ⊢
            cases h2; simp
           have hi : i < (opsOf (sub root p)).size := (Array.getElem?_eq_some_iff.1 ho).1
           have hsz : (opsOf (sub root p)).size - i = ((opsOf (sub root p)).size - (i + 1)) + 1 := by omega
           simp only [List.map_cons, PI.den]
           rw [hsz, List.range'_succ]
           refine Go.Sy.Fin.op_unwanted ho (jE hg hs hoff) ?_
           rw [hd]
           exact hk hT V _ _ (r.put d (.grd s true v) _ hdn fun a' ha h2 => ⟨fun h3 => absurd (by rw [← ha s hsd]; exact h3) hoff, fun _ => h2⟩)
       · cases h
     · cases h
   · cases h
 · cases h
theorem J.settle2 {P : Program} {f : FuncId} {root : Code} {Γ : Ctx} {Q : Out} {todo : List PI} {st : ST} {t s : Nat} {want : Bool} {v : SX} (hm : (t, SV.grd s want v) ∈ st.fr) (hb : lookup st.fr s = some (.x (.c (.pd (.bool want))))) {fr' : List (Nat × SV)} (hf : ∀ p ∈ fr', p ∈ st.fr ∨ p = (t, .x v))
 (hk : J P f root Γ Q todo { st with fr := fr' }) : J P f root Γ Q todo st := by
 intro hT V a w r
 have hon : a.tmps.getD s undef = .bool want := by
  have := r.slots s _ (dp hb)
  have h2 : SX.R V (.c (.pd (.bool want))) (a.tmps.getD s undef) := this
  generalize a.tmps.getD s undef = u at h2 ⊢
  cases h2; rfl
 have hv : dH V a t (.x v) := (r.slots t _ hm).1 hon
 refine hk hT V a w ⟨r.1, r.2, fun t' sv h' => ?_, r.4, r.5⟩
 rcases hf _ h' with h | h
 · exact r.slots _ _ h
 · simp only [Prod.mk.injEq] at h
   obtain ⟨rfl, rfl⟩ := h; exact hv
/-! ### signs of one byte, of two -/
def two (x : Str) : Int := match x with | a :: b :: _ => dN a b | _ => 0
def one (x : Str) : Int := match x with | a :: _ => gA a | [] => 0
theorem HB (x : Str) : two x = 0 ∨ (11 ≤ two x ∧ two x ≤ 23) := by
 match x with
 | [] => exact .inl rfl
 | [_] => exact .inl rfl
 | a :: b :: _ =>
   show dN a b = 0 ∨ _
   show dN a b = 0 ∨ (11 ≤ dN a b ∧ dN a b ≤ 23)
   unfold dN
   repeat' split
   all_goals omega
theorem GF (x : Str) : one x = 0 ∨ (11 ≤ one x ∧ one x ≤ 23) := by
 match x with
 | [] => exact .inl rfl
 | a :: _ =>
   show gA a = 0 ∨ (11 ≤ gA a ∧ gA a ≤ 23)
   unfold gA
   repeat' split
   all_goals omega
theorem Gr {x : Str} (h : two x ≠ 0) : aT x = (two x, 2) := by
 match x, h with
 | [], h => exact absurd rfl h
 | [_], h => exact absurd rfl h
 | a :: b :: r, h =>
   have h' : dN a b ≠ 0 := h
   show aT (a :: b :: r) = (dN a b, 2)
   simp only [aT, h', if_false]
theorem FQ {x : Str} (h : two x = 0) (h1 : one x ≠ 0) : aT x = (one x, 1) := by
 match x, h, h1 with
 | [], _, h1 => exact absurd rfl h1
 | [a], _, h1 =>
   have h' : gA a ≠ 0 := h1
   show ft a = (gA a, 1)
   unfold ft; rw [if_neg h']
 | a :: b :: r, h, h1 =>
   have h' : gA a ≠ 0 := h1
   have h2 : dN a b = 0 := h
   show aT (a :: b :: r) = (gA a, 1)
   simp only [aT, h2, if_true]
   unfold ft; rw [if_neg h']
theorem Jo {x : Str} (h : two x = 0) (h1 : one x = 0) : aT x = (0, 0) := by
 match x, h, h1 with
 | [], _, _ => rfl
 | [a], _, h1 =>
   have h' : gA a = 0 := h1
   show ft a = (0, 0)
   unfold ft; rw [if_pos h']
 | a :: b :: r, h, h1 =>
   have h' : gA a = 0 := h1
   have h2 : dN a b = 0 := h
   simp only [aT, h2, if_true]
   unfold ft; rw [if_pos h']
theorem ON (x : Str) {op : Int} (h1 : 11 ≤ op) (h2 : op ≤ 23) : (2 ≤ x.length ∧ (aG op).1 = x.take 2) ↔ op = two x := by
 have h : op = 11 ∨ op = 12 ∨ op = 13 ∨ op = 14 ∨ op = 15 ∨ op = 16 ∨ op = 17 ∨ op = 18 ∨ op = 19 ∨ op = 20 ∨ op = 21 ∨ op = 22 ∨ op = 23 := by omega
 match x with
 | [] => rcases h with rfl | rfl | rfl | rfl | rfl | rfl | rfl | rfl | rfl | rfl | rfl | rfl | rfl <;> simp [two]
 | [_] => rcases h with rfl | rfl | rfl | rfl | rfl | rfl | rfl | rfl | rfl | rfl | rfl | rfl | rfl <;> simp [two]
 | a :: b :: r =>
   have e : two (a :: b :: r) = dN a b := rfl
   have hl : 2 ≤ (a :: b :: r).length := by simp
   rw [e]
   constructor
   · rintro ⟨_, hh⟩
     have hh' : (aG op).1 = [a, b] := hh
     rcases h with rfl | rfl | rfl | rfl | rfl | rfl | rfl | rfl | rfl | rfl | rfl | rfl | rfl
     all_goals first
      | (simp [aG] at hh'; done)
      | (simp [aG] at hh'
         obtain ⟨rfl, rfl⟩ := hh'; rfl)
   · intro hh
     refine ⟨hl, ?_⟩
     show (aG op).1 = [a, b]
     unfold dN at hh
     repeat' (split at hh)
     all_goals first | (exfalso; omega) | skip
     · rename_i g1 g2; subst hh g1 g2; rfl
     · rename_i g1 g2 g3; subst hh g1 g3; rfl
     · rename_i g1 g2 g3 g4; subst hh g1 g4; rfl
theorem OI (x : Str) {op : Int} (h1 : 11 ≤ op) (h2 : op ≤ 23) : (1 ≤ x.length ∧ (aG op).1 = x.take 1) ↔ op = one x := by
 have h : op = 11 ∨ op = 12 ∨ op = 13 ∨ op = 14 ∨ op = 15 ∨ op = 16 ∨ op = 17 ∨ op = 18 ∨ op = 19 ∨ op = 20 ∨ op = 21 ∨ op = 22 ∨ op = 23 := by omega
 match x with
 | [] => rcases h with rfl | rfl | rfl | rfl | rfl | rfl | rfl | rfl | rfl | rfl | rfl | rfl | rfl <;> simp [one]
 | a :: r =>
   have e : one (a :: r) = gA a := rfl
   have hl : 1 ≤ (a :: r).length := by simp
   rw [e]
   constructor
   · rintro ⟨_, hh⟩
     have hh' : (aG op).1 = [a] := hh
     rcases h with rfl | rfl | rfl | rfl | rfl | rfl | rfl | rfl | rfl | rfl | rfl | rfl | rfl
     all_goals first
      | (simp [aG] at hh'; done)
      | (simp [aG] at hh'
         subst hh'; rfl)
   · intro hh
     refine ⟨hl, ?_⟩
     show (aG op).1 = [a]
     unfold gA at hh
     repeat' (split at hh)
     all_goals first | (exfalso; omega) | (rename_i g; subst hh g; rfl)
/-! ### the walk -/
def lR : Cfg := ⟨a6, [tT, r9, qt]⟩
theorem jm : ah Tryz.prog lR.tab := (ah.cons Fo (ah.cons ER (ah.cons CX ah.nil)))
def ik (s : Str) (pos : Int) (out : List Cell) (wt : List Wait) (o : Int × Int) : Out := fun v c =>
 if o.1 = 0 ∨ (aG o.1).2 = 3 ∧ cP wt.reverse = true then McQ s (.tup [.i pos, .i 0]) pos out wt v c
 else McQ s (.tup [.i (-1), .i 0]) (pos + o.2) (out ++ cellsOf (cw (aG o.1).2 wt.reverse)) ((bP (aG o.1).2 wt.reverse).reverse ++ [⟨o.1, (aG o.1).2⟩]) v c
theorem ik.no {s : Str} {pos : Int} {out : List Cell} {wt : List Wait} {o : Int × Int} (h : o.1 = 0 ∨ (aG o.1).2 = 3 ∧ cP wt.reverse = true) : ik s pos out wt o (.tup [.i pos, .i 0]) (mkA s pos out wt) := by
 unfold ik; rw [if_pos h]; exact McQ.a rfl
theorem ik.yes {s : Str} {pos k : Int} {out : List Cell} {wt : List Wait} {o : Int × Int} (h : ¬ (o.1 = 0 ∨ (aG o.1).2 = 3 ∧ cP wt.reverse = true)) (hk : k = pos + o.2) : ik s pos out wt o (.tup [.i (-1), .i 0]) (mkB s k (out ++ cellsOf (cw (aG o.1).2 wt.reverse)) ((bP (aG o.1).2 wt.reverse).reverse ++ [⟨o.1, (aG o.1).2⟩])) := by
 unfold ik; rw [if_neg h, hk]; exact McQ.b rfl
theorem ob (p : Int) : ∀ l : List Wait, (bP p l).length + (cw p l).length = l.length
 | [] => rfl
 | w :: l => by
   unfold bP cw
   split
   · have := ob p l; simp only [List.length_cons]; omega
   · simp
abbrev zMr1 (a : Str) (b : Int) (c : List Cell) (d : List Wait) : List Chunk := [.cells [.pd (.str a), .i b, .own 1, .own 2] 209, .own 92 .cell c, .own 238 .wait d]
abbrev zMr3 : List PI := [.ops [1, 1, 1, 0, 1, 0, 0, 1, 0, 0, 1, 0, 0, 1, 0, 0, 1, 1, 0, 0] 4, .code [1, 1, 1, 0, 1, 0, 0, 1, 0, 0, 1, 0, 0, 1, 0, 0, 1, 1, 0, 1], .code [1, 1, 1, 0, 1, 0, 0, 1, 0, 0, 1, 0, 0, 1, 0, 0, 1, 1, 1], .inBlock 3, .code [1, 1, 1, 0, 1, 0, 0, 1, 0, 0, 1, 0, 0, 1, 1], .inLoop [1, 1, 1, 0, 1, 0, 0, 1, 0, 0, 1, 0, 0], .inBlock 2, .inBlock 1, .code [1, 1, 1, 0, 1, 0, 0, 1, 1], .inLoop [1, 1, 1, 0, 1, 0, 0], .inBlock 0, .code [1, 1, 1, 1]]
abbrev zMr4 : List PI := [.ops [1, 1, 1, 0, 1, 0, 0, 1, 0, 0, 1, 0, 0, 1, 0, 0, 1, 1, 0, 0] 5, .code [1, 1, 1, 0, 1, 0, 0, 1, 0, 0, 1, 0, 0, 1, 0, 0, 1, 1, 0, 1], .code [1, 1, 1, 0, 1, 0, 0, 1, 0, 0, 1, 0, 0, 1, 0, 0, 1, 1, 1], .inBlock 3, .code [1, 1, 1, 0, 1, 0, 0, 1, 0, 0, 1, 0, 0, 1, 1], .inLoop [1, 1, 1, 0, 1, 0, 0, 1, 0, 0, 1, 0, 0], .inBlock 2, .inBlock 1, .code [1, 1, 1, 0, 1, 0, 0, 1, 1], .inLoop [1, 1, 1, 0, 1, 0, 0], .inBlock 0, .code [1, 1, 1, 1]]
theorem NM (s : Str) (pos n op : Int) (out : List Cell) (wt : List Wait) (Γ : Ctx) (hs : s.length ≤ 1048576) (hl : out.length + wt.length ≤ 1000000) (h0 : 0 ≤ pos) (hn : 1 ≤ n ∧ n ≤ 2) (hle : pos ≤ ab s) (h1 : 11 ≤ op) (h2 : op ≤ 23) :
 zJ170Mr Γ (ik s pos out wt (op, n)) zMr3 ({ n := 181, fr := [(0, .x (.c (.loc 0 0))), (2, .i 0), (3, .i 0), (5, .i n), (6, .i op), (8, .i (Prod.snd (aG op))), (146, .p (.bool (Prod.snd (aG op) == (3 : Int)))), (147, .grd 146 true (.c (.loc 0 0)))], ck := (zMr1 s pos out wt), m := 3 }) := by
 have hL : ab s = (s.length : Int) := rfl
 have hrl := ob (aG op).2 wt.reverse
 rw [List.length_reverse] at hrl
 have hroom : room ((bP (aG op).2 wt.reverse).reverse ++ [(⟨op, (aG op).2⟩ : Wait)]).length 16 := vH (by rw [List.length_append, List.length_reverse]; simp only [List.length_cons, List.length_nil]; omega)
 cases h3 : ((aG op).2 == 3)
 · have hk : zJ170Mr Γ (ik s pos out wt (op, n)) zMr4 ({ n := 181, fr := [(0, .x (.c (.loc 0 0))), (2, .i 0), (3, .i 0), (5, .i n), (6, .i op), (8, .i (Prod.snd (aG op))), (146, .p (.bool false)), (147, .grd 146 true (.c (.loc 0 0))), (148, .grd 146 true (.p (.bool false)))], ck := (zMr1 s pos out wt), m := 3 }) := by
    refine jg jm Tryz.func170 (let x1 := (List.reverse (bP (Prod.snd (aG op)) (List.reverse wt)) ++ [{ op := op, power := Prod.snd (aG op) }]); .ite false (.ret (.tup [.i pos, .i 0]) (zMr1 s pos out wt)) (.need (out.length + wt.length ≤ 3000000) (.need (room (List.length x1) 16) (.ret (.tup [.i (-1 : Int), .i 0]) [.cells [.pd (.str s), .i (IntKind.wrap .i64 (pos + n)), .own 3, .own 4] 209, .dead, .dead, .own 92 .cell (out ++ cellsOf (cw (Prod.snd (aG op)) (List.reverse wt))), .own 238 .wait x1])))) ?_
    conv => zeta
    refine ⟨fun h => Bool.noConfusion h, fun _ => ⟨by omega, hroom, ?_⟩⟩
    exact ik.yes (o := (op, n)) (fun h => by
     rcases h with h | h
     · have : op = 0 := h; omega
     · exact ne_of_beq_false h3 h.1) (bG (by omega) (by omega))
   exact J.skip (v := .c (.pd (.bool false))) (by kernel_rfl) hk
 · have e3 : (aG op).2 = 3 := eq_of_beq h3
   have hk : zJ170Mr Γ (ik s pos out wt (op, n)) zMr4 ({ n := 181, fr := [(0, .x (.c (.loc 0 0))), (2, .i 0), (3, .i 0), (5, .i n), (6, .i op), (8, .i (Prod.snd (aG op))), (146, .p (.bool true)), (147, .x (.c (.loc 0 0))), (148, .p (.bool ((cP (List.reverse wt)))))], ck := (zMr1 s pos out wt), m := 3 }) := by
    refine jg jm Tryz.func170 (let x1 := (List.reverse (bP (Prod.snd (aG op)) (List.reverse wt)) ++ [{ op := op, power := Prod.snd (aG op) }]); .ite (true && cP (List.reverse wt)) (.ret (.tup [.i pos, .i 0]) (zMr1 s pos out wt)) (.need (out.length + wt.length ≤ 3000000) (.need (room (List.length x1) 16) (.ret (.tup [.i (-1 : Int), .i 0]) [.cells [.pd (.str s), .i (IntKind.wrap .i64 (pos + n)), .own 3, .own 4] 209, .dead, .dead, .own 92 .cell (out ++ cellsOf (cw (Prod.snd (aG op)) (List.reverse wt))), .own 238 .wait x1])))) ?_
    conv => zeta
    refine ⟨fun h => ?_, fun h => ⟨by omega, hroom, ?_⟩⟩
    · exact ik.no (o := (op, n)) (.inr ⟨e3, by simpa using h⟩)
    · exact ik.yes (o := (op, n)) (fun h' => by
       rcases h' with h' | h'
       · have : op = 0 := h'; omega
       · rw [h'.2] at h; cases h) (bG (by omega) (by omega))
   have hk2 : zJ170Mr Γ (ik s pos out wt (op, n)) zMr3 ({ n := 181, fr := [(0, .x (.c (.loc 0 0))), (2, .i 0), (3, .i 0), (5, .i n), (6, .i op), (8, .i (Prod.snd (aG op))), (146, .p (.bool true)), (147, .x (.c (.loc 0 0)))], ck := (zMr1 s pos out wt), m := 3 }) := J.run (cfg := lR) jm (q := some (wt.length ≤ 1048576)) (by kernel_rfl) (by show wt.length ≤ 1048576; omega) hk
   refine J.settle2 (t := 147) (s := 146) (want := true) (v := .c (.loc 0 0)) (by simp) rfl ?_ hk2
   intro p hp
   simp only [List.mem_cons, List.not_mem_nil, or_false] at hp ⊢
   rcases hp with rfl | rfl | rfl | rfl | rfl | rfl | rfl | rfl <;> simp
abbrev zMr2 : List PI := [.code [1, 1, 1, 0, 1, 0, 0, 1, 0, 0, 1, 0, 0], .inLoop [1, 1, 1, 0, 1, 0, 0, 1, 0, 0, 1, 0, 0], .inBlock 2, .inBlock 1, .code [1, 1, 1, 0, 1, 0, 0, 1, 1], .inLoop [1, 1, 1, 0, 1, 0, 0], .inBlock 0, .code [1, 1, 1, 1]]
abbrev zMr5 : List PI := [.code [1, 1, 1, 0, 1, 0, 0], .inLoop [1, 1, 1, 0, 1, 0, 0], .inBlock 0, .code [1, 1, 1, 1]]
theorem Bn (s : Str) (pos n : Int) (out : List Cell) (wt : List Wait) (Γ : Ctx) (Q : Out) (hs : s.length ≤ 1048576) (hl : out.length + wt.length ≤ 1000000) (h0 : 0 ≤ pos) (hn : 1 ≤ n ∧ n ≤ 2) (hle : pos ≤ ab s) (X : Int)
 (hX : ∀ op, 11 ≤ op → op ≤ 23 → ((pos + n ≤ ab s ∧ (aG op).1 = (s.drop pos.toNat).take n.toNat) ↔ op = X)) (hQ : 11 ≤ X → X ≤ 23 → Q = ik s pos out wt (X, n))
 (hno : ¬ (11 ≤ X ∧ X ≤ 23) → zJ170Mr Γ Q zMr5 ({ n := 181, fr := [(0, .x (.c (.loc 0 0))), (2, .i 0), (3, .i 0), (5, .i ((n - 1)))], ck := (zMr1 s pos out wt), m := 3 })) :
 ∀ (k : Nat) (op : Int), op + k = 24 → 11 ≤ op → (11 ≤ X → op ≤ X) → zJ170Mr Γ Q zMr2 ({ n := 181, fr := [(0, .x (.c (.loc 0 0))), (2, .i 0), (3, .i 0), (5, .i n), (6, .i op)], ck := (zMr1 s pos out wt), m := 3 }) := by
 have hL : ab s = (s.length : Int) := rfl
 intro k
 induction k with
 | zero => ?_
 | succ k ih => ?_
 all_goals
  intro op hk h11 hlow
  refine jg jm Tryz.func170 (let x1 : List Chunk := (zMr1 s pos out wt); let x2 : List Nat := [1, 1, 1, 0, 1, 0, 0, 1, 0, 0, 1, 0, 0]; let x3 : Nat × SV := (0, .x (.c (.loc 0 0))); .ite (decide (op ≤ (23 : Int)) && decide (IntKind.wrap .i64 (pos + n) ≤ ab s)) (.need ((1 : Int) ≤ op ∧ op ≤ (23 : Int)) (.need ((0 : Int) ≤ pos ∧ pos ≤ IntKind.wrap .i64 (pos + n) ∧ IntKind.wrap .i64 (pos + n) ≤ (s.length : Int)) (.ite (!Prod.fst (aG op) == Prod.snd (aw s (some pos) (some (IntKind.wrap .i64 (pos + n))))) (.stop [.code x2, .inLoop x2, .inBlock 2, .inBlock 1, .code [1, 1, 1, 0, 1, 0, 0, 1, 1], .inLoop [1, 1, 1, 0, 1, 0, 0], .inBlock 0, .code [1, 1, 1, 1]] { n := 181, fr := [x3, (2, .i 0), (3, .i 0), (5, .i n), (6, .i (IntKind.wrap .i64 (op + (1 : Int))))], ck := x1, m := 3 }) (.stop [.ops [1, 1, 1, 0, 1, 0, 0, 1, 0, 0, 1, 0, 0, 1, 0, 0, 1, 1, 0, 0] 4, .code [1, 1, 1, 0, 1, 0, 0, 1, 0, 0, 1, 0, 0, 1, 0, 0, 1, 1, 0, 1], .code [1, 1, 1, 0, 1, 0, 0, 1, 0, 0, 1, 0, 0, 1, 0, 0, 1, 1, 1], .inBlock 3, .code [1, 1, 1, 0, 1, 0, 0, 1, 0, 0, 1, 0, 0, 1, 1], .inLoop x2, .inBlock 2, .inBlock 1, .code [1, 1, 1, 0, 1, 0, 0, 1, 1], .inLoop [1, 1, 1, 0, 1, 0, 0], .inBlock 0, .code [1, 1, 1, 1]] { n := 181, fr := [x3, (2, .i 0), (3, .i 0), (5, .i n), (6, .i op), (8, .i (Prod.snd (aG op))), (146, .p (.bool (Prod.snd (aG op) == (3 : Int)))), (147, .grd 146 true (.c (.loc 0 0)))], ck := x1, m := 3 })))) (.stop zMr5 { n := 181, fr := [x3, (2, .i 0), (3, .i 0), (5, .i (IntKind.wrap .i64 (n - (1 : Int))))], ck := x1, m := 3 })) ?_
  conv => zeta
  have ecut : (aw s (some pos) (some (pos + n))).2 = (s.drop pos.toNat).take n.toNat := by
   show (s.take (pos + n).toNat).drop pos.toNat = _
   rw [List.drop_take, show (pos + n).toNat - pos.toNat = n.toNat by omega]
  rw [bG (n := pos + n) (by omega) (by omega), bG (n := op + 1) (by omega) (by omega), bG (n := n - 1) (by omega) (by omega), ecut]
  refine ⟨fun h => ?_, fun h => ?_⟩
  · simp only [Bool.and_eq_true, decide_eq_true_eq] at h
    refine ⟨⟨by omega, h.1⟩, ⟨h0, by omega, by omega⟩, fun hne => ?_, fun heq => ?_⟩
    · have hne' : ¬ (aG op).1 = (s.drop pos.toNat).take n.toNat := by simpa using hne
      have hx : op ≠ X := fun e => hne' ((hX op h11 h.1).2 e).2
      first
      | (exfalso; omega)
      | exact ih (op + 1) (by omega) (by omega) (fun hh => by have := hlow hh; omega)
    · have heq' : (aG op).1 = (s.drop pos.toNat).take n.toNat := by simpa using heq
      have hx : op = X := (hX op h11 h.1).1 ⟨h.2, heq'⟩
      rw [hQ (by omega) (by omega), ← hx]
      exact NM s pos n op out wt Γ hs hl h0 hn hle h11 h.1
  · refine hno (fun hh => ?_)
    have h1 := hlow hh.1
    have h2 := ((hX X hh.1 hh.2).2 rfl).1
    rw [decide_eq_true (show op ≤ 23 by omega), decide_eq_true h2] at h
    cases h
theorem Nw (s : Str) (pos : Int) (out : List Cell) (wt : List Wait) (Γ : Ctx) (o : Int × Int) (ho : o.1 = 0) : zJ170Mr Γ (ik s pos out wt o) zMr5 ({ n := 181, fr := [(0, .x (.c (.loc 0 0))), (2, .i 0), (3, .i 0), (5, .i ((1 - 1 : Int)))], ck := (zMr1 s pos out wt), m := 3 }) := by
 refine jg jm Tryz.func170 (.ite false (.stop zMr2 { n := 181, fr := [(0, .x (.c (.loc 0 0))), (2, .i 0), (3, .i 0), (5, .i ((1 : Int) - 1)), (6, .i 11)], ck := (zMr1 s pos out wt), m := 3 }) (.ret (.tup [.i pos, .i 0]) (zMr1 s pos out wt))) ?_
 exact ⟨fun h => Bool.noConfusion h, fun _ => ik.no (.inl ho)⟩
theorem NL (s : Str) (pos : Int) (out : List Cell) (wt : List Wait) (Γ : Ctx) (hs : s.length ≤ 1048576) (hl : out.length + wt.length ≤ 1000000) (h0 : 0 ≤ pos) (hle : pos < ab s) : zJ170Mr Γ (ik s pos out wt (aT (s.drop pos.toNat))) zMr5 ({ n := 181, fr := [(0, .x (.c (.loc 0 0))), (2, .i 0), (3, .i 0), (5, .i ((2 : Int)))], ck := (zMr1 s pos out wt), m := 3 }) := by
 have hL : ab s = (s.length : Int) := rfl
 have hlen : ((s.drop pos.toNat).length : Int) = ab s - pos := by rw [List.length_drop]; omega
 have h1 : ∀ n : Int, 1 ≤ n → n ≤ 2 → ∀ Q : Out, zJ170Mr Γ Q zMr2 ({ n := 181, fr := [(0, .x (.c (.loc 0 0))), (2, .i 0), (3, .i 0), (5, .i n), (6, .i ((11 : Int)))], ck := (zMr1 s pos out wt), m := 3 }) → zJ170Mr Γ Q zMr5 ({ n := 181, fr := [(0, .x (.c (.loc 0 0))), (2, .i 0), (3, .i 0), (5, .i n)], ck := (zMr1 s pos out wt), m := 3 }) := by
  intro n hn1 hn2 Q hj
  refine jg jm Tryz.func170 (.ite (decide (n ≥ (1 : Int))) (.stop zMr2 { n := 181, fr := [(0, .x (.c (.loc 0 0))), (2, .i 0), (3, .i 0), (5, .i n), (6, .i 11)], ck := (zMr1 s pos out wt), m := 3 }) (.ret (.tup [.i pos, .i 0]) (zMr1 s pos out wt))) ?_
  exact ⟨fun _ => hj, fun h => absurd hn1 (of_decide_eq_false h)⟩
 refine h1 2 (by omega) (by omega) _ ?_
 refine Bn s pos 2 out wt Γ _ hs hl h0 (by omega) (by omega) (two (s.drop pos.toNat)) (fun op g1 g2 => ?_) (fun g1 g2 => ?_) (fun hno2 => ?_) 13 11 (by omega) (by omega) (fun h => h)
 · rw [← ON _ g1 g2]
   constructor
   · rintro ⟨m1, m2⟩; exact ⟨by omega, m2⟩
   · rintro ⟨m1, m2⟩; exact ⟨by omega, m2⟩
 · rw [Gr (by omega)]
 · have z2 : two (s.drop pos.toNat) = 0 := by rcases HB (s.drop pos.toNat) with h | h; exact h; exact absurd h hno2
   refine h1 1 (by omega) (by omega) _ ?_
   refine Bn s pos 1 out wt Γ _ hs hl h0 (by omega) (by omega) (one (s.drop pos.toNat)) (fun op g1 g2 => ?_) (fun g1 g2 => ?_) (fun hno1 => ?_) 13 11 (by omega) (by omega) (fun h => h)
   · rw [← OI _ g1 g2]
     constructor
     · rintro ⟨m1, m2⟩; exact ⟨by omega, m2⟩
     · rintro ⟨m1, m2⟩; exact ⟨by omega, m2⟩
   · rw [FQ z2 (by omega)]
   · have z1 : one (s.drop pos.toNat) = 0 := by rcases GF (s.drop pos.toNat) with h | h; exact h; exact absurd h hno1
     rw [Jo z2 z1]
     exact Nw s pos out wt Γ (0, 0) rfl
theorem yk (s : Str) (pos : Int) (out : List Cell) (wt : List Wait) (hs : s.length ≤ 1048576) (h0 : 0 ≤ pos) (h1 : pos ≤ ab s) (hl : out.length + wt.length ≤ 1000000) :
 ak Tryz.prog 170 [.c (.loc 0 0)] (mkA s pos out wt) (.tup [.i (bk s ⟨pos, out, wt.reverse⟩).2.1, .i (bk s ⟨pos, out, wt.reverse⟩).2.2]) (mkB s (bk s ⟨pos, out, wt.reverse⟩).1.pos (bk s ⟨pos, out, wt.reverse⟩).1.out (bk s ⟨pos, out, wt.reverse⟩).1.wt.reverse) := by
 have hL : ab s = (s.length : Int) := rfl
 refine ak.mc Tryz.func170 (by kernel_rfl) (by kernel_rfl) rfl rfl fun Γ => ?_
 have hfinal : ∀ {o : Mc × Int × Int}, bk s ⟨pos, out, wt.reverse⟩ = o → ∀ {v : SV} {c : List Chunk}, (McQ s (.tup [.i o.2.1, .i o.2.2]) o.1.pos o.1.out o.1.wt.reverse) v c → (McQ s (.tup [.i (bk s ⟨pos, out, wt.reverse⟩).2.1, .i (bk s ⟨pos, out, wt.reverse⟩).2.2]) (bk s ⟨pos, out, wt.reverse⟩).1.pos (bk s ⟨pos, out, wt.reverse⟩).1.out (bk s ⟨pos, out, wt.reverse⟩).1.wt.reverse) v c := by
  intro o e v c h; rw [e]; exact h
 refine jg jm Tryz.func170 (let x1 := (List.reverse (bP (1 : Int) (List.reverse wt))); let x2 := (↑(List.length x1) : Int); let x8 := (cw (1 : Int) (List.reverse wt)); let x3 : List Chunk := [.cells [.pd (.str s), .i pos, .own 3, .own 4] 209, .dead, .dead, .own 92 .cell (out ++ cellsOf x8), .own 238 .wait x1]; let x5 := (IntKind.wrap .i64 (x2 - 1)); let x11 := (ETy.get .wait x1 (Int.toNat x5)); let x4 := (out ++ cellsOf x8 ++ [{ op := Wait.op x11, a := (0 : Int), name := [] }]); let x6 := ((0 : Int) ≤ IntKind.wrap .i64 (x2 - 1) ∧ IntKind.wrap .i64 (x2 - 1) < x2); let x7 := ((0 : Int) ≤ IntKind.wrap .i64 (x2 - 1) ∧ IntKind.wrap .i64 (x2 - 1) ≤ x2); let x9 := (IntKind.wrap .i64 (pos + (1 : Int))); let x10 := (out.length + wt.length ≤ 3000000); .ite (pos == ab s) (.need x10 (.ite (decide (x2 > 0)) (.ret (.tup [.i pos, .i 0]) x3) (.ret (.tup [.i (-1 : Int), .i 2]) x3))) (.need ((0 : Int) ≤ pos ∧ pos < ab s) (.ite ((↑(UInt8.toNat (List.getD s (Int.toNat pos) (0 : UInt8))) : Int) == 41) (.need x10 (.ite (x2 == 0) (.ret (.tup [.i pos, .i 0]) x3) (.need x6 (.need (Int.toNat x5 < List.length x1) (.ite (Wait.op x11 != (0 : Int)) (.need x6 (.need (Int.toNat x5 < List.length x1) (.need (room (List.length x4) 32) (.need x7 (.ret (.tup [.i (-1 : Int), .i 1]) [.cells [.pd (.str s), .i x9, .own 3, .own 4] 209, .dead, .dead, .own 92 .cell x4, .own 238 .wait (List.take (Int.toNat x5) x1)]))))) (.need x7 (.ret (.tup [.i (-1 : Int), .i 1]) [.cells [.pd (.str s), .i x9, .own 3, .own 4] 209, .dead, .dead, .own 92 .cell (out ++ cellsOf x8), .own 238 .wait (List.take (Int.toNat x5) x1)]))))))) (.stop zMr5 { n := 181, fr := [(0, .x (.c (.loc 0 0))), (2, .i 0), (3, .i 0), (5, .i 2)], ck := (zMr1 s pos out wt), m := 3 })))) ?_
 conv => zeta
 have hrl := ob 1 wt.reverse
 rw [List.length_reverse] at hrl
 refine ⟨fun he => ⟨by omega, fun hgt => ?_, fun hle => ?_⟩, fun hne => ?_⟩
 · have he' : pos = ab s := eq_of_beq he
   have hgt' : bP 1 wt.reverse ≠ [] := by
    intro e; rw [e] at hgt; exact absurd hgt (by decide)
   have e : bk s ⟨pos, out, wt.reverse⟩ = (⟨pos, out ++ cellsOf (cw 1 wt.reverse), bP 1 wt.reverse⟩, pos, 0) := by
    unfold bk; rw [if_pos he', if_neg (by show ¬ bP 1 wt.reverse = []; exact hgt')]; rfl
   exact hfinal e (McQ.b rfl)
 · have he' : pos = ab s := eq_of_beq he
   have hle' : bP 1 wt.reverse = [] := by
    cases hx : bP 1 wt.reverse with
    | nil => rfl
    | cons a r => rw [hx] at hle; simp at hle
   have e : bk s ⟨pos, out, wt.reverse⟩ = (⟨pos, out ++ cellsOf (cw 1 wt.reverse), bP 1 wt.reverse⟩, -1, 2) := by
    unfold bk; rw [if_pos he', if_pos (by show bP 1 wt.reverse = []; exact hle')]; rfl
   exact hfinal e (McQ.b rfl)
 have hne' : ¬ pos = ab s := ne_of_beq_false hne
 refine ⟨⟨h0, by omega⟩, fun h41 => ?_, fun n41 => ?_⟩
 · have h41' : bD s pos = 41 := eq_of_beq h41
   have hbm : bk s ⟨pos, out, wt.reverse⟩ = (match bP 1 wt.reverse with
    | [] => (⟨pos, out ++ cellsOf (cw 1 wt.reverse), bP 1 wt.reverse⟩, pos, 0)
    | w :: l => (⟨pos + 1, if w.op = 0 then out ++ cellsOf (cw 1 wt.reverse) else out ++ cellsOf (cw 1 wt.reverse) ++ [⟨w.op, 0, []⟩], l⟩, -1, 1)) := by
    unfold bk; rw [if_neg hne', if_pos h41']; rfl
   have hfl : (out ++ cellsOf (cw 1 wt.reverse)).length ≤ 1000000 := by
    rw [List.length_append]
    have : (cellsOf (cw 1 wt.reverse)).length = (cw 1 wt.reverse).length := List.length_map _
    omega
   generalize hrr : bP 1 wt.reverse = rr at hbm hrl ⊢
   generalize out ++ cellsOf (cw 1 wt.reverse) = oo at hbm hfl ⊢
   refine ⟨by omega, fun hz => ?_, fun hnz => ?_⟩
   · have hr0 : rr = [] := by
      have : (rr.reverse.length : Int) = 0 := eq_of_beq hz
      rw [List.length_reverse] at this
      exact List.length_eq_zero_iff.1 (by omega)
     subst hr0
     exact hfinal hbm (McQ.b rfl)
   · cases rr with
     | nil => exact absurd hnz (by decide)
     | cons w r =>
       simp only at hbm
       have hrl2 : ((w :: r).reverse).length = r.length + 1 := by simp
       have w1 : IntKind.wrap .i64 ((((w :: r).reverse).length : Int) - 1) = (r.length : Int) := by
        simp only [List.length_cons] at hrl
        rw [hrl2, bG (by omega) (by omega)]; omega
       have hg : ETy.get .wait ((w :: r).reverse) r.length = w := by
        refine ETy.get_eq (t := .wait) ?_
        rw [List.reverse_cons, List.getElem?_append_right (by simp)]; simp
       have ht : ((w :: r).reverse).take r.length = r.reverse := by
        rw [List.reverse_cons, List.take_append_of_le_length (by simp), List.take_of_length_le (by simp)]
       have hb : (0 : Int) ≤ (r.length : Int) ∧ (r.length : Int) < (((w :: r).reverse).length : Int) := by rw [hrl2]; omega
       have hb2 : r.length < ((w :: r).reverse).length := by rw [hrl2]; omega
       rw [w1, Int.toNat_natCast, hg, ht, bG (n := pos + 1) (by omega) (by omega)]
       refine ⟨hb, hb2, fun hop => ⟨hb, hb2, fD (by rw [List.length_append]; simp only [List.length_cons, List.length_nil]; omega), ⟨hb.1, Int.le_of_lt hb.2⟩, ?_⟩, fun hop => ⟨⟨hb.1, Int.le_of_lt hb.2⟩, ?_⟩⟩
       · have hop' : ¬ w.op = 0 := by simpa using hop
         rw [if_neg hop'] at hbm
         exact hfinal hbm (McQ.b rfl)
       · have hop' : w.op = 0 := by simpa using hop
         rw [if_pos hop'] at hbm
         exact hfinal hbm (McQ.b rfl)
 · have n41' : ¬ bD s pos = 41 := ne_of_beq_false n41
   refine J.mono (fun v c hq => ?_) (NL s pos out wt Γ hs hl h0 (by omega))
   have hbm : bk s ⟨pos, out, wt.reverse⟩ = (if (aT (s.drop pos.toNat)).1 = 0 then (⟨pos, out, wt.reverse⟩, pos, 0) else if (aG (aT (s.drop pos.toNat)).1).2 = 3 ∧ cP wt.reverse = true then (⟨pos, out, wt.reverse⟩, pos, 0) else (⟨pos + (aT (s.drop pos.toNat)).2, out ++ cellsOf (cw (aG (aT (s.drop pos.toNat)).1).2 wt.reverse), ⟨(aT (s.drop pos.toNat)).1, (aG (aT (s.drop pos.toNat)).1).2⟩ :: bP (aG (aT (s.drop pos.toNat)).1).2 wt.reverse⟩, -1, 0)) := by
    unfold bk; rw [if_neg hne', if_neg n41']; rfl
   generalize aT (s.drop pos.toNat) = o at hq hbm
   unfold ik at hq
   by_cases g1 : o.1 = 0
   · rw [if_pos g1] at hbm
     rw [if_pos (.inl g1)] at hq
     refine hfinal hbm ?_
     show McQ s _ pos out wt.reverse.reverse v c
     rw [List.reverse_reverse]; exact hq
   · rw [if_neg g1] at hbm
     by_cases g2 : (aG o.1).2 = 3 ∧ cP wt.reverse = true
     · rw [if_pos g2] at hbm
       rw [if_pos (.inr g2)] at hq
       refine hfinal hbm ?_
       show McQ s _ pos out wt.reverse.reverse v c
       rw [List.reverse_reverse]; exact hq
     · rw [if_neg g2] at hbm
       rw [if_neg (fun h => by rcases h with h | h; exact g1 h; exact g2 h)] at hq
       refine hfinal hbm ?_
       show McQ s _ _ _ (List.reverse (_ :: _)) v c
       rw [List.reverse_cons]; exact hq
def wP : Ent := (169, fun
 | [.c (.loc 0 0)], [.cells [.pd (.str s), .pd (.int .i64 pos), .own 1, .own 2] 209, .own 92 .cell out, .own 238 .wait wt] => some (some (s.length ≤ 1048576 ∧ 0 ≤ pos ∧ pos ≤ ab s ∧ out.length ≤ 3000000 ∧ wt.length ≤ 3000000), .tup [.c (.pd (.int .i64 (aR s ⟨pos, out, wt.reverse⟩).2.1)), .c (.pd (.bool (aR s ⟨pos, out, wt.reverse⟩).2.2))], [.cells [.pd (.str s), .pd (.int .i64 (aR s ⟨pos, out, wt.reverse⟩).1.pos), .own 3, .own 4] 209, .dead, .dead, .own 92 .cell (aR s ⟨pos, out, wt.reverse⟩).1.out, .own 238 .wait (aR s ⟨pos, out, wt.reverse⟩).1.wt.reverse])
 | _, _ => none)
theorem Ir : EntOk Tryz.prog wP := entOk fun vs ck => by
 unfold wP; dsimp only; split
 · rename_i s pos out wt; exact entS fun hp => wD s pos out wt hp.1 hp.2.1 hp.2.2.1 hp.2.2.2.1 hp.2.2.2.2
 · exact entN
def xe : Ent := (170, fun
 | [.c (.loc 0 0)], [.cells [.pd (.str s), .pd (.int .i64 pos), .own 1, .own 2] 209, .own 92 .cell out, .own 238 .wait wt] => some (some (s.length ≤ 1048576 ∧ 0 ≤ pos ∧ pos ≤ ab s ∧ out.length + wt.length ≤ 1000000), .tup [.c (.pd (.int .i64 (bk s ⟨pos, out, wt.reverse⟩).2.1)), .c (.pd (.int .i64 (bk s ⟨pos, out, wt.reverse⟩).2.2))], [.cells [.pd (.str s), .pd (.int .i64 (bk s ⟨pos, out, wt.reverse⟩).1.pos), .own 3, .own 4] 209, .dead, .dead, .own 92 .cell (bk s ⟨pos, out, wt.reverse⟩).1.out, .own 238 .wait (bk s ⟨pos, out, wt.reverse⟩).1.wt.reverse])
 | _, _ => none)
theorem Jm : EntOk Tryz.prog xe := entOk fun vs ck => by
 unfold xe; dsimp only; split
 · rename_i s pos out wt; exact entS fun hp => yk s pos out wt hp.1 hp.2.1 hp.2.2.1 hp.2.2.2
 · exact entN
end Go.Proofs.YtpfidgnkokidoaaGreatDoor

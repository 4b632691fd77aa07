/- Plain laws: lists of cells as trees; the kinds of trees. Conditions: none. Contracts: the document's names, operands, right lists. Conditions: none. -/
import Derived.Test.YtcopfgbbjdefbaaGreatDoorFc
namespace Go.Proofs.YtcopfgbbjdefbaaGreatDoor
open Go Go.Ev
set_option maxRecDepth 100000
theorem ga (c : Cell) (h : bk c ≥ 0) : (c.op < 7 ∧ bk c = 0) ∨ (7 ≤ c.op ∧ c.op < 11 ∧ bk c = 1) ∨ (11 ≤ c.op ∧ bk c = 2) := by
 rcases mN c h with ⟨h1, h2⟩ | ⟨h1, h2, h3⟩ | ⟨h1, h2⟩
 · exact .inl ⟨h2, h1⟩
 · exact .inr (.inl ⟨h2, h3, h1⟩)
 · exact .inr (.inr ⟨h2, h1⟩)
inductive Tm where
 | leaf (c : Cell)
 | un (c : Cell) (t : Tm)
 | bin (c : Cell) (t u : Tm)
def Tm.flat : Tm → List Cell
 | .leaf c => [c]
 | .un c t => t.flat ++ [c]
 | .bin c t u => t.flat ++ u.flat ++ [c]
def Tm.ok : Tm → Prop
 | .leaf c => bk c = 0
 | .un c t => bk c = 1 ∧ t.ok
 | .bin c t u => bk c = 2 ∧ t.ok ∧ u.ok
theorem Tm.flat_pos (t : Tm) : 1 ≤ t.flat.length := by cases t <;> simp only [Tm.flat, List.length_append, List.length_cons, List.length_nil] <;> omega
def mK : List Tm → List Cell
 | [] => []
 | t :: r => mK r ++ t.flat
theorem js : ∀ (rest : List Cell) (ts : List Tm), (∀ t ∈ ts, t.ok) → cn rest ts.length = true → ∃ t : Tm, t.ok ∧ t.flat = mK ts ++ rest
 | [], ts, hok, h => by
   simp only [cn] at h
   have h1 : ts.length = 1 := by have h2 : (ts.length : Int) = 1 := (by simpa using h); omega
   obtain ⟨t, rfl⟩ := List.length_eq_one_iff.1 h1
   exact ⟨t, hok t (by simp), by simp [mK]⟩
 | c :: rest, ts, hok, h => by
   simp only [cn] at h
   cases hb : (decide (bk c < 0) || decide (bk c > (ts.length : Int)))
   · rw [hb, cond_false] at h
     simp only [Bool.or_eq_false_iff] at hb
     have h1 := of_decide_eq_false hb.1
     have h2 := of_decide_eq_false hb.2
     rcases ga c (by omega) with ⟨_, hw⟩ | ⟨_, _, hw⟩ | ⟨_, hw⟩
     · obtain ⟨t, q1, q2⟩ := js rest (.leaf c :: ts) (by intro t ht; rcases List.mem_cons.1 ht with rfl | ht; exact hw; exact hok t ht) (by rw [← h]; congr 1; simp only [List.length_cons]; omega)
       exact ⟨t, q1, by rw [q2]; simp [mK, Tm.flat]⟩
     · cases ts with
       | nil => simp at h2; omega
       | cons a ts =>
         obtain ⟨t, q1, q2⟩ := js rest (.un c a :: ts) (by intro t ht; rcases List.mem_cons.1 ht with rfl | ht; exact ⟨hw, hok a (by simp)⟩; exact hok t (by simp [ht])) (by rw [← h]; congr 1; simp only [List.length_cons]; omega)
         exact ⟨t, q1, by rw [q2]; simp [mK, Tm.flat]⟩
     · cases ts with
       | nil => simp at h2; omega
       | cons a ts => cases ts with
         | nil => simp at h2; omega
         | cons b ts =>
           obtain ⟨t, q1, q2⟩ := js rest (.bin c b a :: ts) (by intro t ht; rcases List.mem_cons.1 ht with rfl | ht; exact ⟨hw, hok b (by simp), hok a (by simp)⟩; exact hok t (by simp [ht])) (by rw [← h]; congr 1; simp only [List.length_cons]; omega)
           exact ⟨t, q1, by rw [q2]; simp [mK, Tm.flat]⟩
   · rw [hb] at h; simp at h
theorem Is {l : List Cell} (h : dM l = true) : l.length ≤ 32 ∧ ∃ t : Tm, t.ok ∧ t.flat = l := by
 simp only [dM, Bool.and_eq_true, Bool.not_eq_true', decide_eq_false_iff_not] at h
 obtain ⟨t, h1, h2⟩ := js l [] (by simp) (by simpa using h.2)
 exact ⟨by omega, t, h1, by simpa [mK] using h2⟩
theorem iH (rest : List Cell) : ∀ (t : Tm), t.ok → ∀ n : Int, 0 ≤ n → cn (t.flat ++ rest) n = cn rest (n + 1)
 | .leaf c, h, n, hn => by
   simp only [Tm.ok] at h
   simp [Tm.flat, cn, h, show ¬ (n < 0) from by omega]
 | .un c t, h, n, hn => by
   obtain ⟨hw, ht⟩ := h
   rw [Tm.flat, List.append_assoc, iH _ t ht n hn]
   simp [cn, hw, show ¬ (n + 1 < 1) from by omega]
 | .bin c t u, h, n, hn => by
   obtain ⟨hw, ht, hu⟩ := h
   rw [Tm.flat, List.append_assoc, List.append_assoc, iH _ t ht n hn, iH _ u hu _ (by omega)]
   have : ¬ (n + 1 + 1 < 2) := by omega
   simp only [List.cons_append, List.nil_append, cn, hw, show decide ((2 : Int) < 0) = false from rfl, Bool.false_or, show decide ((2 : Int) > n + 1 + 1) = false from by simpa using this, cond_false]
   congr 1; omega
theorem H4 {t : Tm} (h : t.ok) (hl : t.flat.length ≤ 32) : dM t.flat = true := by
 have := iH [] t h 0 (by omega)
 rw [List.append_nil] at this
 simp only [dM, this, cn, Bool.and_eq_true, Bool.not_eq_true', decide_eq_false_iff_not]
 exact ⟨by omega, rfl⟩
/-! ### kinds -/
def gY (k : Int) : Int × Int := bif k == 0 then (0, 8) else (k, 0)
def unK (op a : Int) : Int × Int := gY (cP op a 0)
def HZ (op a b : Int) : Int × Int := gY (cP op a b)
def Tm.kind (vars : List Var) (states : List (List UInt8)) : Tm → Int × Int
 | .leaf c => bV c vars states
 | .un c t => bif (t.kind vars states).2 != 0 then (0, (t.kind vars states).2) else unK c.op (t.kind vars states).1
 | .bin c t u => bif (t.kind vars states).2 != 0 then (0, (t.kind vars states).2) else bif (u.kind vars states).2 != 0 then (0, (u.kind vars states).2) else HZ c.op (t.kind vars states).1 (u.kind vars states).1
def OneKind (p : Int × Int) : Prop := (p.2 = 0 → 1 ≤ p.1 ∧ p.1 ≤ 3) ∧ (p.2 ≠ 0 → p.1 = 0)
theorem OneKind.ok {k : Int} (h1 : 1 ≤ k) (h2 : k ≤ 3) : OneKind (k, 0) := ⟨fun _ => ⟨h1, h2⟩, fun h => absurd rfl h⟩
theorem OneKind.err {e : Int} (h : e ≠ 0) : OneKind (0, e) := ⟨fun h1 => absurd h1 h, fun _ => rfl⟩
theorem xu (c : Cell) (vars : List Var) (states : List (List UInt8)) : OneKind (bV c vars states) := by
 unfold bV
 cases c.op == 1
 · cases c.op == 2
   · cases c.op == 5
     · cases c.op == 6
       · exact .ok (by decide) (by decide)
       · cases !(states.any fun s => s == c.name)
         · exact .ok (by decide) (by decide)
         · exact .err (by decide)
     · show OneKind (match gH vars c.name with
        | none => (0, 2)
        | some v => bif decide (v.kind ≥ 1) && decide (v.kind ≤ 3) then (v.kind, 0) else (0, 8))
       cases gH vars c.name with
       | none => exact .err (by decide)
       | some v =>
         cases hk : (decide (v.kind ≥ 1) && decide (v.kind ≤ 3))
         · simp only [hk, cond_false]; exact .err (by decide)
         · simp only [hk, cond_true]
           simp only [Bool.and_eq_true, decide_eq_true_eq] at hk
           exact .ok (by omega) (by omega)
   · exact .ok (by decide) (by decide)
 · exact .ok (by decide) (by decide)
theorem qJ (op l r : Int) : 0 ≤ cP op l r ∧ cP op l r ≤ 3 := by
 have h : ∀ rows : List KRow, (∀ k ∈ rows, 0 ≤ k.out ∧ k.out ≤ 3) → 0 ≤ gT op l r rows ∧ gT op l r rows ≤ 3 := by
  intro rows
  induction rows with
  | nil => intro _; exact ⟨by simp [gT], by simp [gT]⟩
  | cons k rows ih =>
    intro hk
    simp only [gT]
    cases vh op l r k
    · exact ih fun x hx => hk x (List.mem_cons_of_mem _ hx)
    · exact hk k List.mem_cons_self
 exact h pb (by decide)
theorem uc (k : Int) (h : 0 ≤ k ∧ k ≤ 3) : OneKind (gY k) := by
 unfold gY
 cases hk : (k == 0)
 · have : k ≠ 0 := by simpa using hk
   exact .ok (by omega) (by omega)
 · exact .err (by decide)
theorem Tm.kind_one (vars : List Var) (states : List (List UInt8)) (t : Tm) : OneKind (t.kind vars states) := by
 cases t with
 | leaf c => exact xu c vars states
 | un c t =>
   simp only [Tm.kind]
   cases hb : ((t.kind vars states).2 != 0)
   · exact uc _ (qJ _ _ _)
   · exact .err (by simpa using hb)
 | bin c t u =>
   simp only [Tm.kind]
   cases hb : ((t.kind vars states).2 != 0)
   · cases hb2 : ((u.kind vars states).2 != 0)
     · exact uc _ (qJ _ _ _)
     · exact .err (by simpa using hb2)
   · exact .err (by simpa using hb)
theorem ry (k : Int) : (bif (0 : Int) == 0 && k == 0 then (8 : Int) else 0) = (gY k).2 ∧ ((gY k).2 = 0 → (gY k).1 = k) := by
 unfold gY
 cases hk : (k == 0) <;> simp
theorem jn (vars : List Var) (states : List (List UInt8)) : ∀ (t : Tm), t.ok → ∀ (rest : List Cell) (st : List Int),
 fu vars states (t.flat ++ rest) st = bif (t.kind vars states).2 != 0 then (0, (t.kind vars states).2) else fu vars states rest ((t.kind vars states).1 :: st)
 | .leaf c, h, rest, st => by
   simp only [Tm.ok] at h
   have h7 : decide (c.op < 7) = true := by rcases ga c (by omega) with ⟨h1, _⟩ | ⟨_, _, h1⟩ | ⟨_, h1⟩ <;> first | exact decide_eq_true h1 | omega
   have hl := xu c vars states
   have e : (bif (bV c vars states).2 == 0 && (bV c vars states).1 == 0 then (8 : Int) else (bV c vars states).2) = (bV c vars states).2 := by
    cases hb : ((bV c vars states).2 == 0 && (bV c vars states).1 == 0)
    · rfl
    · simp only [Bool.and_eq_true, beq_iff_eq] at hb
      have := hl.1 hb.1; omega
   simp only [Tm.flat, List.cons_append, List.nil_append, fu, fA, h7, cond_true, e, Tm.kind]
 | .un c t, ⟨hw, ht⟩, rest, st => by
   have h7 : decide (c.op < 7) = false ∧ decide (c.op < 11) = true := by rcases ga c (by omega) with ⟨_, h1⟩ | ⟨h1, h2, _⟩ | ⟨_, h1⟩ <;> first | exact ⟨decide_eq_false (by omega), decide_eq_true (by omega)⟩ | omega
   rw [Tm.flat, List.append_assoc, jn vars states t ht]
   simp only [Tm.kind]
   cases hb : ((t.kind vars states).2 != 0)
   · have ho := ry (cP c.op (t.kind vars states).1 0)
     simp only [cond_false, List.cons_append, List.nil_append, fu, fA, h7.1, h7.2, cond_true, List.getD_cons_zero, ho.1, unK, List.drop_one, List.tail_cons]
     cases hb2 : ((gY (cP c.op (t.kind vars states).1 0)).2 != 0)
     · have : (gY (cP c.op (t.kind vars states).1 0)).2 = 0 := by simpa using hb2
       simp only [cond_false, ho.2 this]
     · rfl
   · simp only [cond_true, hb]
 | .bin c t u, ⟨hw, ht, hu⟩, rest, st => by
   have h7 : decide (c.op < 7) = false ∧ decide (c.op < 11) = false := by rcases ga c (by omega) with ⟨_, h1⟩ | ⟨_, _, h1⟩ | ⟨h1, _⟩ <;> first | exact ⟨decide_eq_false (by omega), decide_eq_false (by omega)⟩ | omega
   rw [Tm.flat, List.append_assoc, List.append_assoc, jn vars states t ht]
   simp only [Tm.kind]
   cases hb : ((t.kind vars states).2 != 0)
   · simp only [cond_false]
     rw [jn vars states u hu]
     cases hb3 : ((u.kind vars states).2 != 0)
     · have ho := ry (cP c.op (t.kind vars states).1 (u.kind vars states).1)
       simp only [cond_false, List.cons_append, List.nil_append, fu, fA, h7.1, h7.2, List.getD_cons_zero, List.getD_cons_succ, ho.1, HZ, List.drop_succ_cons, List.drop_zero]
       cases hb2 : ((gY (cP c.op (t.kind vars states).1 (u.kind vars states).1)).2 != 0)
       · have : (gY (cP c.op (t.kind vars states).1 (u.kind vars states).1)).2 = 0 := by simpa using hb2
         simp only [cond_false, ho.2 this]
       · rfl
     · simp only [cond_true, hb3]
   · simp only [cond_true, hb]
theorem CG (vars : List Var) (states : List (List UInt8)) {t : Tm} (h : t.ok) (hl : t.flat.length ≤ 32) : b8 t.flat vars states = t.kind vars states := by
 have := jn vars states t h [] []
 rw [List.append_nil] at this
 simp only [b8, H4 h hl, Bool.not_true, cond_false, this, fu]
 have hk := t.kind_one vars states
 cases hb : ((t.kind vars states).2 != 0)
 · have h0 : (t.kind vars states).2 = 0 := by simpa using hb
   simp only [cond_false, List.getLastD_cons, List.getLastD_nil]; rw [← h0]
 · simp only [cond_true]
   have := hk.2 (by simpa using hb)
   rw [← this]
/-! ### the document's rules -/
def Ju (op a : Int) : Int × Int :=
 bif op == 7 && a != 2 then (a, 0) else bif op == 8 && a == 2 then (a, 0) else bif decide (op > 8) && a == 3 then (1, 0) else (0, 8)
def fZ (op k : Int) : Int × Int :=
 bif op == 16 || op == 17 then (2, 0)
 else bif op == 22 || op == 23 then (bif k == 2 then (k, 0) else (0, 8))
 else bif decide (op ≥ 18) then (bif k == 1 then (2, 0) else (0, 8))
 else bif decide (op ≥ 14) then (bif k == 1 then (k, 0) else (0, 8))
 else bif k != 2 then (k, 0) else (0, 8)
def FM (op a b : Int) : Int × Int := bif a != b then (0, 8) else fZ op a
theorem L5 (op a : Int) (h1 : 7 ≤ op) (h2 : op < 11) (h3 : 1 ≤ a) (h4 : a ≤ 3) : Ju op a = unK op a := by
 have ho : op = 7 ∨ op = 8 ∨ op = 9 ∨ op = 10 := by omega
 have ha : a = 1 ∨ a = 2 ∨ a = 3 := by omega
 rcases ho with rfl | rfl | rfl | rfl <;> rcases ha with rfl | rfl | rfl <;> rfl
theorem KA (op a b : Int) (h1 : 11 ≤ op) (h2 : op ≤ 23) (h3 : 1 ≤ a) (h4 : a ≤ 3) (h5 : 1 ≤ b) (h6 : b ≤ 3) : FM op a b = HZ op a b := by
 have ho : op = 11 ∨ op = 12 ∨ op = 13 ∨ op = 14 ∨ op = 15 ∨ op = 16 ∨ op = 17 ∨ op = 18 ∨ op = 19 ∨ op = 20 ∨ op = 21 ∨ op = 22 ∨ op = 23 := by omega
 have ha : a = 1 ∨ a = 2 ∨ a = 3 := by omega
 have hb : b = 1 ∨ b = 2 ∨ b = 3 := by omega
 rcases ho with rfl | rfl | rfl | rfl | rfl | rfl | rfl | rfl | rfl | rfl | rfl | rfl | rfl <;> rcases ha with rfl | rfl | rfl <;> rcases hb with rfl | rfl | rfl <;> rfl
def gR (k:Int) (c:UInt8):Bool :=
 !(decide ((c.toNat:Int)≥97)&&decide ((c.toNat:Int)≤122))&&(k==0 || !(decide ((c.toNat:Int)≥48)&&decide ((c.toNat:Int)≤57)||(c.toNat:Int)==95))
def kP (s:List UInt8):Bool:=decide (aA s<1)||decide (aA s>12)||s==[116,114,117,101]||s==[102,97,108,115,101]||s==[105,110]||s==[114,101]||s==[105,109]
variable (op:Int) {k:Nat} (a:Int) (l:List Cell) (s:Str) {c:UInt8} (Γ:Ctx)
theorem yK (hk:k≠0) (h:gR k c=true):jS c=true:=by
 have hk':((k:Int)==0)=false:=by simp; omega
 simp only [gR,hk',a6,af,aF,cr,ay,decide_eq_false_iff_not,jS,aM,decide_eq_true_eq,bne_iff_ne,beq_eq_false_iff_ne] at *
 omega
theorem BW (h:gR k c=false):jS c=false:=by
 cases hb:jS c
 · rfl
 · exfalso
   have h':gR k c=true:=by
    cases hk:((k:Int)==0) <;>
    simp only [gR,hk,a6,b6,cW,af,aF,cr,ay,decide_eq_false_iff_not,jS,aM,decide_eq_true_eq,bne_iff_ne,beq_eq_false_iff_ne] at * <;> omega
   rw [h] at h'; cases h'
theorem Dv {s:List UInt8} (h:kP s=true):ba s=false:=by
 simp only [kP,aM,decide_eq_true_eq,beq_iff_eq] at h
 cases hn:ba s
 · rfl
 · exfalso
   simp only [ba,jx,nA,af,aF,ay,decide_eq_false_iff_not,beq_eq_false_iff_ne] at hn
   have hl:s=[]∨1≤aA s:=by cases s <;> simp [aA]; omega
   rcases h with (((((h | h) | h) | h) | h) | h) | h
   · rcases hl with hl | hl
     · exact hn.1.1.1.1.1 hl
     · omega
   · exact hn.1.1.1.1.2 h
   all_goals first | exact hn.2.1.1.1.1 h | exact hn.2.1.1.1.2 h | exact hn.2.1.1.2 h | exact hn.2.1.2 h | exact hn.2.2 h
abbrev zFd1:List PI:=[.code [1,1,0,1,0,0],.inLoop [1,1,0,1,0,0],.inBlock 0,.code [1,1,1]]
theorem uz (h0:kP s=false):∀ (n k:Nat),s.length - k≤n→k≤s.length→(∀ j,j<k→gR j (s.getD j 0)=false) →
 J Tryz.prog 52 (aw Tryz.f52) Γ (Eq2 (.x (.b (ba s))) []) zFd1 ({ n:=76,fr:=[(0,.p (.str s)),(2,.p (.bool false)),(3,.i k)],ck:=[],kn:=[2] }):=by
 have hlen:s.length≤12∧1≤s.length:=by
  simp only [kP,ay,decide_eq_false_iff_not,aA] at h0
  have h1:=of_decide_eq_false h0.1.1.1.1.1.1
  have h2:=of_decide_eq_false h0.1.1.1.1.1.2
  omega
 intro n
 induction n with
 | zero=>?_
 | succ n ih=>?_
 all_goals
  intro k hn hk hb
  refine jg aV Tryz.func52 (let x1:=(↑((List.getD s k (0:UInt8)).toNat):Int); let x2:=((0:Int)≤(k:Int)∧(k:Int)<aA s); .ite (decide ((k:Int)<aA s)) (.need x2 (.need (decide (x1≥97)=true→(0:Int)≤(k:Int)∧(k:Int)<aA s) (.need x2 (.need (decide (x1≥48)=true→(0:Int)≤(k:Int)∧(k:Int)<aA s) (.need ((decide (x1≥48)&&decide (x1≤57))=false→(0:Int)≤(k:Int)∧(k:Int)<aA s) (.ite (!(decide (x1≥97)&&decide (x1≤122))&&((k:Int)==0 || !(decide (x1≥48)&&decide (x1≤57)||x1==95))) (.ret (.p (.bool false)) []) (.stop zFd1 { n:=76,fr:=[(0,.p (.str s)),(2,.p (.bool false)),(3,.i (IntKind.wrap .i64 ((k:Int)+1)))],ck:=[],kn:=[2] }))))))) (.ret (.p (.bool true)) [])) ?_
  conv=>zeta
  have inb:decide ((k:Int)<aA s)=true→0≤(k:Int)∧(k:Int)<aA s:=fun h=>⟨by omega,of_decide_eq_true h⟩
  refine ⟨fun hlt=>⟨inb hlt,fun _=>inb hlt,inb hlt,fun _=>inb hlt,fun _=>inb hlt,fun hbad=>⟨?_,rfl⟩,fun hok=>?_⟩,fun hge=>⟨?_,rfl⟩⟩
  · have hbad':gR k (s.getD k 0)=true:=hbad
    have hlt':=of_decide_eq_true hlt
    simp only [aA] at hlt'
    have e:ba s=false:=by
     by_cases hz:k=0
     · subst hz
       have:jx s=true:=by
        simp only [gR,af,aF,cr,decide_eq_false_iff_not] at hbad'
        simp only [jx,aM,decide_eq_true_eq]
        omega
       simp [ba,this]
     · simp [ba,vO (by omega) (yK hz hbad')]
    rw [e]
  · have hok':gR k (s.getD k 0)=false:=hok
    have hlt':=of_decide_eq_true hlt
    simp only [aA] at hlt'
    first
    | (exfalso; omega)
    | (rw [aZ (by omega)]
       exact ih (k+1) (by omega) (by omega) fun j hj=>if e:j=k then by rw [e]; exact hok' else hb j (by omega))
  · have hge':=of_decide_eq_false hge
    simp only [aA] at hge'
    have hany:s.any jS=false:=oc fun j hj=>BW (hb j (by omega))
    have h00:=hb 0 (by omega)
    simp only [gR,Int.ofNat_eq_natCast,cr,cF,af,decide_eq_true_eq] at h00
    simp only [kP,ay,decide_eq_false_iff_not] at h0
    have hne:(s==[])=false:=by cases s with | nil=>simp at hlen | cons=>rfl
    have hn0:jx s=false:=by
     simp only [jx,hne,a6,ay,decide_eq_false_iff_not]
     rcases h00 with h | h
     · refine ⟨⟨by omega,by omega⟩,by omega⟩
     · simp at h
    have hw5:nA s=false:=by simp [nA,h0]
    simp [ba,hany,hn0,hw5]
theorem uB:ah Tryz.prog 52 [.s s] [] (.x (.b (ba s))) []:=by
 refine dg aV Tryz.func52 (.ite (decide (aA s<(1:Int))||decide (aA s>(12:Int))||s==[116,114,117,101]||s==[102,97,108,115,101]||s==[105,110]||s==[114,101]||s==[105,109]) (.ret (.p (.bool false)) []) (.stop zFd1 { n:=76,fr:=[(0,.p (.str s)),(2,.p (.bool false)),(3,.i 0)],ck:=[],kn:=[2] })) fun Γ=>?_
 refine ⟨fun h=>⟨?_,rfl⟩,fun h=>?_⟩
 · rw [Dv h]
 · exact uz s Γ h s.length 0 (by omega) (by omega) (fun j hj=>by omega)
def oa:Ent:=(52,fun
 | [.c (.pd (.str s))],[]=>some (none,.x (.c (.pd (.bool (ba s)))),[])
 | _,_=>none)
theorem ma:EntOk Tryz.prog oa:=entOk fun vs ck=>by
 unfold oa; dsimp only; split
 · rename_i s; exact entS fun hp=>uB s
 · exact entN
def El:Cfg:=⟨aX,[oa]⟩
theorem EF:ag Tryz.prog El.tab:=(ag.cons ma ag.nil)
theorem yq (s:List UInt8) :
 (bif (!((op==5||op==6)==decide (aA s>0))||(op==5||op==6) && !ba s || !(op==1||op==2)&&a != 0||decide (a<0)) then (-1:Int)
  else bif (op==1&&decide (a>1099511627776)||op==2&&decide (a>1048576)||decide (op<1)||decide (op>23)) then -1
  else bif decide (op≤6) then 0 else bif decide (op≤10) then 1 else 2)=cH op a s:=by
 have hs:decide (aA s>0) = !(s==[]):=by cases s <;> simp [aA]
 rw [hs]
 have hn:(s==[])=true→ba s=false:=by
  intro h; have:s=[]:=by simpa using h
  subst this; rfl
 unfold cH
 generalize hx:(s==[])=x at *
 generalize ba s=y at *
 by_cases h1:op=1
 · subst h1
   cases x <;> simp [cond_eq_ite] <;> (repeat' split) <;> omega
 · by_cases h2:op=2
   · subst h2
     cases x <;> simp [cond_eq_ite] <;> (repeat' split) <;> omega
   · by_cases h5:op=5
     · subst h5
       cases x <;> cases y <;> simp_all [cond_eq_ite] <;> (repeat' split) <;> omega
     · by_cases h6:op=6
       · subst h6
         cases x <;> cases y <;> simp_all [cond_eq_ite] <;> (repeat' split) <;> omega
       · cases x <;> simp_all [cond_eq_ite] <;> (repeat' split) <;> omega
theorem uN:ah Tryz.prog 197 [.agg [.i op,.i a,.pd (.str s)]] [] (.x (.i (cH op a s))) []:=by
 rw [← yq]
 refine dg EF Tryz.func197 (.ite (!(op==(5:Int)||op==(6:Int))==decide (aA s>(0:Int))||(op==(5:Int)||op==(6:Int)) && !ba s || !(op==(1:Int)||op==(2:Int))&&a != (0:Int)||decide (a<(0:Int))) (.ret (.i (-1:Int)) []) (.ite (op==(1:Int)&&decide (a>(1099511627776:Int))||op==(2:Int)&&decide (a>(1048576:Int))||decide (op<(1:Int))||decide (op>(23:Int))) (.ret (.i (-1:Int)) []) (.ite (decide (op≤(6:Int))) (.ret (.i 0) []) (.ite (decide (op≤(10:Int))) (.ret (.i 1) []) (.ret (.i 2) []))))) fun Γ=>?_
 refine ⟨fun h=>?_,fun h=>⟨fun h1=>?_,fun h1=>⟨fun h2=>?_,fun h2=>⟨fun h3=>?_,fun h3=>?_⟩⟩⟩⟩
 all_goals
  refine ⟨?_,rfl⟩
  simp only [*,cond_true,cond_false]
def xU:Ent:=(197,fun
 | [.agg [.pd (.int .i64 op),.pd (.int .i64 a),.pd (.str s)]],[]=>some (none,.x (.c (.pd (.int .i64 (cH op a s)))),[])
 | _,_=>none)
theorem AH:EntOk Tryz.prog xU:=entOk fun vs ck=>by
 unfold xU; dsimp only; split
 · rename_i op a s; exact entS fun hp=>uN op a s
 · exact entN
def qQ:Cfg:=⟨aX,[xU]⟩
theorem n1:ag Tryz.prog qQ.tab:=(ag.cons AH ag.nil)
theorem sn:∀ (n k:Nat) (m:Int),33 - k≤n→k≤l.length→k≤32→0≤m→m≤k →
 J Tryz.prog 164 (aw Tryz.f164) Γ (Eq2 (.x (.b (!decide ((l.length:Int)>32)&&cn (l.drop k) m))) []) zFd1 ({ n:=34,fr:=[(0,.p (.lst .cell l)),(2,.p (.bool false)),(3,.i m),(4,.i k)],ck:=[],kn:=[2] }):=by
 intro n
 induction n with
 | zero=>intro k m h1 h2 h3; omega
 | succ n ih=>?_
 intro k m hn hk hk32 hm0 hm
 refine jg n1 Tryz.func164 (let x1:=(Cell.name (ETy.get .cell l k)); let x2:=(Cell.op (ETy.get .cell l k)); let x3:=(Cell.a (ETy.get .cell l k)); .ite (decide ((k:Int)<(l.length:Int))) (.need (inRg k l.length) (.ite (decide (cH x2 x3 x1<(0:Int))||decide (m<cH x2 x3 x1)||decide ((k:Int)≥32)) (.ret (.p (.bool false)) []) (.stop zFd1 { n:=34,fr:=[(0,.p (.lst .cell l)),(2,.p (.bool false)),(3,.i (IntKind.wrap .i64 (IntKind.wrap .i64 (m - cH x2 x3 x1)+(1:Int)))),(4,.i (IntKind.wrap .i64 ((k:Int)+1)))],ck:=[],kn:=[2] }))) (.ret (.p (.bool (m==(1:Int)))) [])) ?_
 conv=>zeta
 refine ⟨fun hlt=>?_,fun hge=>⟨?_,rfl⟩⟩
 · have hk':k<l.length:=by have:=of_decide_eq_true hlt; omega
   refine ⟨⟨by omega,by omega⟩,?_⟩
   rw [bI (t:=.cell) hk']
   generalize ETy.get .cell l k=c
   refine ⟨fun h=>⟨?_,rfl⟩,fun h=>?_⟩
   · have h':(decide (bk c<0)||decide (m<bk c)||decide ((k:Int)≥32))=true:=h
     simp only [aM] at h'
     have e:(!decide ((l.length:Int)>32)&&cn (c::l.drop (k+1)) m)=false:=by
      rcases h' with h | h
      · have h':(decide (bk c<0)||decide (bk c>m))=true:=by
         rcases h with h | h
         · rw [h]; rfl
         · have:decide (bk c>m)=true:=h
           rw [this,Bool.or_true]
        simp only [cn,h',cond_true,cz]
      · have:decide ((l.length:Int)>32)=true:=decide_eq_true (by have:=of_decide_eq_true h; omega)
        rw [this]; rfl
     rw [e]
   · have h':(decide (bk c<0)||decide (m<bk c)||decide ((k:Int)≥32))=false:=h
     simp only [ay] at h'
     have h1:=of_decide_eq_false h'.1.1
     have h2:=of_decide_eq_false h'.1.2
     have h3:=of_decide_eq_false h'.2
     show J Tryz.prog 164 (aw Tryz.f164) Γ _ zFd1 ({ n:=34,fr:=[(0,.p (.lst .cell l)),(2,.p (.bool false)),(3,.i (IntKind.wrap .i64 (IntKind.wrap .i64 (m - bk c)+1))),(4,.i (IntKind.wrap .i64 ((k:Int)+1)))],ck:=[],kn:=[2] })
     have e1:IntKind.wrap IntKind.i64 (IntKind.wrap IntKind.i64 (m - bk c)+1)=m+(1 - bk c):=by
      rw [cv (n:=m - _) (by omega) (by omega),cv (by omega) (by omega)]; omega
     have e2:cn (c::l.drop (k+1)) m=cn (l.drop (k+1)) (m+(1 - bk c)):=by
      have hb':(decide (bk c<0)||decide (bk c>m))=false:=by
       rw [ay]; exact ⟨decide_eq_false h1,decide_eq_false (by omega)⟩
      simp only [cn,hb',cond_false]
     rw [e1,e2,aZ (by omega)]
     exact ih (k+1) (m+(1 - bk c)) (by omega) (by omega) (by omega) (by omega) (by omega)
 · have h2:=of_decide_eq_false hge
   rw [bT (by omega),cn,show decide ((l.length:Int)>32)=false from decide_eq_false (by omega)]; rfl
theorem sV:ah Tryz.prog 164 [.l .cell l] [] (.x (.b (dM l))) []:=by
 refine dg n1 Tryz.func164 (.stop zFd1 { n:=34,fr:=[(0,.p (.lst .cell l)),(2,.p (.bool false)),(3,.i 0),(4,.i 0)],ck:=[],kn:=[2] }) fun Γ=>?_
 exact sn l Γ 33 0 0 (by omega) (by omega) (by omega) (by omega) (by omega)
def mh:Ent:=(164,fun
 | [.c (.pd (.lst .cell l))],[]=>some (none,.x (.c (.pd (.bool (dM l)))),[])
 | _,_=>none)
theorem r7:EntOk Tryz.prog mh:=entOk fun vs ck=>by
 unfold mh; dsimp only; split
 · rename_i l; exact entS fun hp=>sV l
 · exact entN
end Go.Proofs.YtcopfgbbjdefbaaGreatDoor

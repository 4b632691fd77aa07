/- Plain laws: lists of cells as trees; the kinds of trees. Conditions: none. Contracts: the document's names, operands, right lists. Conditions: none. -/
import Derived.Test.YtcopfgbbjdefbaaGreatDoorFc
namespace Go.Proofs.YtcopfgbbjdefbaaGreatDoor
open Go Go.Ev
set_option maxRecDepth 100000
theorem fM (c : Cell) (h : a7 c ≥ 0) : (c.op < 7 ∧ a7 c = 0) ∨ (7 ≤ c.op ∧ c.op < 11 ∧ a7 c = 1) ∨ (11 ≤ c.op ∧ a7 c = 2) := by
 rcases l7 c h with ⟨h1, h2⟩ | ⟨h1, h2, h3⟩ | ⟨h1, h2⟩
 · exact .inl ⟨h2, h1⟩
 · exact .inr (.inl ⟨h2, h3, h1⟩)
 · exact .inr (.inr ⟨h2, h1⟩)
inductive Tm where
 | leaf (c : Cell)
 | un (c : Cell) (t : Tm)
 | bin (c : Cell) (t u : Tm)
def Tm.flat : Tm → List Cell
 | .leaf c => [c]
 | .un c t => t.flat ++ [c]
 | .bin c t u => t.flat ++ u.flat ++ [c]
def Tm.ok : Tm → Prop
 | .leaf c => a7 c = 0
 | .un c t => a7 c = 1 ∧ t.ok
 | .bin c t u => a7 c = 2 ∧ t.ok ∧ u.ok
theorem Tm.flat_pos (t : Tm) : 1 ≤ t.flat.length := by cases t <;> simp only [Tm.flat, List.length_append, List.length_cons, List.length_nil] <;> omega
def lA : List Tm → List Cell
 | [] => []
 | t :: r => lA r ++ t.flat
theorem iS : ∀ (rest : List Cell) (ts : List Tm), (∀ t ∈ ts, t.ok) → cd rest ts.length = true → ∃ t : Tm, t.ok ∧ t.flat = lA ts ++ rest
 | [], ts, hok, h => by
   simp only [cd] at h
   have h1 : ts.length = 1 := by have h2 : (ts.length : Int) = 1 := (by simpa using h); omega
   obtain ⟨t, rfl⟩ := List.length_eq_one_iff.1 h1
   exact ⟨t, hok t (by simp), by simp [lA]⟩
 | c :: rest, ts, hok, h => by
   simp only [cd] at h
   cases hb : (decide (a7 c < 0) || decide (a7 c > (ts.length : Int)))
   · rw [hb, cond_false] at h
     simp only [Bool.or_eq_false_iff] at hb
     have h1 := of_decide_eq_false hb.1
     have h2 := of_decide_eq_false hb.2
     rcases fM c (by omega) with ⟨_, hw⟩ | ⟨_, _, hw⟩ | ⟨_, hw⟩
     · obtain ⟨t, q1, q2⟩ := iS rest (.leaf c :: ts) (by intro t ht; rcases List.mem_cons.1 ht with rfl | ht; exact hw; exact hok t ht) (by rw [← h]; congr 1; simp only [List.length_cons]; omega)
       exact ⟨t, q1, by rw [q2]; simp [lA, Tm.flat]⟩
     · cases ts with
       | nil => simp at h2; omega
       | cons a ts =>
         obtain ⟨t, q1, q2⟩ := iS rest (.un c a :: ts) (by intro t ht; rcases List.mem_cons.1 ht with rfl | ht; exact ⟨hw, hok a (by simp)⟩; exact hok t (by simp [ht])) (by rw [← h]; congr 1; simp only [List.length_cons]; omega)
         exact ⟨t, q1, by rw [q2]; simp [lA, Tm.flat]⟩
     · cases ts with
       | nil => simp at h2; omega
       | cons a ts => cases ts with
         | nil => simp at h2; omega
         | cons b ts =>
           obtain ⟨t, q1, q2⟩ := iS rest (.bin c b a :: ts) (by intro t ht; rcases List.mem_cons.1 ht with rfl | ht; exact ⟨hw, hok b (by simp), hok a (by simp)⟩; exact hok t (by simp [ht])) (by rw [← h]; congr 1; simp only [List.length_cons]; omega)
           exact ⟨t, q1, by rw [q2]; simp [lA, Tm.flat]⟩
   · rw [hb] at h; simp at h
theorem Fj {l : List Cell} (h : dB l = true) : l.length ≤ 32 ∧ ∃ t : Tm, t.ok ∧ t.flat = l := by
 simp only [dB, Bool.and_eq_true, Bool.not_eq_true', decide_eq_false_iff_not] at h
 obtain ⟨t, h1, h2⟩ := iS l [] (by simp) (by simpa using h.2)
 exact ⟨by omega, t, h1, by simpa [lA] using h2⟩
theorem iz (rest : List Cell) : ∀ (t : Tm), t.ok → ∀ n : Int, 0 ≤ n → cd (t.flat ++ rest) n = cd rest (n + 1)
 | .leaf c, h, n, hn => by
   simp only [Tm.ok] at h
   simp [Tm.flat, cd, h, show ¬ (n < 0) from by omega]
 | .un c t, h, n, hn => by
   obtain ⟨hw, ht⟩ := h
   rw [Tm.flat, List.append_assoc, iz _ t ht n hn]
   simp [cd, hw, show ¬ (n + 1 < 1) from by omega]
 | .bin c t u, h, n, hn => by
   obtain ⟨hw, ht, hu⟩ := h
   rw [Tm.flat, List.append_assoc, List.append_assoc, iz _ t ht n hn, iz _ u hu _ (by omega)]
   have : ¬ (n + 1 + 1 < 2) := by omega
   simp only [List.cons_append, List.nil_append, cd, hw, show decide ((2 : Int) < 0) = false from rfl, Bool.false_or, show decide ((2 : Int) > n + 1 + 1) = false from by simpa using this, cond_false]
   congr 1; omega
theorem Fu {t : Tm} (h : t.ok) (hl : t.flat.length ≤ 32) : dB t.flat = true := by
 have := iz [] t h 0 (by omega)
 rw [List.append_nil] at this
 simp only [dB, this, cd, Bool.and_eq_true, Bool.not_eq_true', decide_eq_false_iff_not]
 exact ⟨by omega, rfl⟩
/-! ### kinds -/
def gG (k : Int) : Int × Int := bif k == 0 then (0, 8) else (k, 0)
def unK (op a : Int) : Int × Int := gG (cF op a 0)
def Eb (op a b : Int) : Int × Int := gG (cF op a b)
def Tm.kind (vars : List Var) (states : List (List UInt8)) : Tm → Int × Int
 | .leaf c => bN c vars states
 | .un c t => bif (t.kind vars states).2 != 0 then (0, (t.kind vars states).2) else unK c.op (t.kind vars states).1
 | .bin c t u => bif (t.kind vars states).2 != 0 then (0, (t.kind vars states).2) else bif (u.kind vars states).2 != 0 then (0, (u.kind vars states).2) else Eb c.op (t.kind vars states).1 (u.kind vars states).1
def OneKind (p : Int × Int) : Prop := (p.2 = 0 → 1 ≤ p.1 ∧ p.1 ≤ 3) ∧ (p.2 ≠ 0 → p.1 = 0)
theorem OneKind.ok {k : Int} (h1 : 1 ≤ k) (h2 : k ≤ 3) : OneKind (k, 0) := ⟨fun _ => ⟨h1, h2⟩, fun h => absurd rfl h⟩
theorem OneKind.err {e : Int} (h : e ≠ 0) : OneKind (0, e) := ⟨fun h1 => absurd h1 h, fun _ => rfl⟩
theorem vw (c : Cell) (vars : List Var) (states : List (List UInt8)) : OneKind (bN c vars states) := by
 unfold bN
 cases c.op == 1
 · cases c.op == 2
   · cases c.op == 5
     · cases c.op == 6
       · exact .ok (by decide) (by decide)
       · cases !(states.any fun s => s == c.name)
         · exact .ok (by decide) (by decide)
         · exact .err (by decide)
     · show OneKind (match gp vars c.name with
        | none => (0, 2)
        | some v => bif decide (v.kind ≥ 1) && decide (v.kind ≤ 3) then (v.kind, 0) else (0, 8))
       cases gp vars c.name with
       | none => exact .err (by decide)
       | some v =>
         cases hk : (decide (v.kind ≥ 1) && decide (v.kind ≤ 3))
         · simp only [hk, cond_false]; exact .err (by decide)
         · simp only [hk, cond_true]
           simp only [Bool.and_eq_true, decide_eq_true_eq] at hk
           exact .ok (by omega) (by omega)
   · exact .ok (by decide) (by decide)
 · exact .ok (by decide) (by decide)
theorem qC (op l r : Int) : 0 ≤ cF op l r ∧ cF op l r ≤ 3 := by
 have h : ∀ rows : List KRow, (∀ k ∈ rows, 0 ≤ k.out ∧ k.out ≤ 3) → 0 ≤ gC op l r rows ∧ gC op l r rows ≤ 3 := by
  intro rows
  induction rows with
  | nil => intro _; exact ⟨by simp [gC], by simp [gC]⟩
  | cons k rows ih =>
    intro hk
    simp only [gC]
    cases tu op l r k
    · exact ih fun x hx => hk x (List.mem_cons_of_mem _ hx)
    · exact hk k List.mem_cons_self
 exact h nY (by decide)
theorem rD (k : Int) (h : 0 ≤ k ∧ k ≤ 3) : OneKind (gG k) := by
 unfold gG
 cases hk : (k == 0)
 · have : k ≠ 0 := by simpa using hk
   exact .ok (by omega) (by omega)
 · exact .err (by decide)
theorem Tm.kind_one (vars : List Var) (states : List (List UInt8)) (t : Tm) : OneKind (t.kind vars states) := by
 cases t with
 | leaf c => exact vw c vars states
 | un c t =>
   simp only [Tm.kind]
   cases hb : ((t.kind vars states).2 != 0)
   · exact rD _ (qC _ _ _)
   · exact .err (by simpa using hb)
 | bin c t u =>
   simp only [Tm.kind]
   cases hb : ((t.kind vars states).2 != 0)
   · cases hb2 : ((u.kind vars states).2 != 0)
     · exact rD _ (qC _ _ _)
     · exact .err (by simpa using hb2)
   · exact .err (by simpa using hb)
theorem qJ (k : Int) : (bif (0 : Int) == 0 && k == 0 then (8 : Int) else 0) = (gG k).2 ∧ ((gG k).2 = 0 → (gG k).1 = k) := by
 unfold gG
 cases hk : (k == 0) <;> simp
theorem iR (vars : List Var) (states : List (List UInt8)) : ∀ (t : Tm), t.ok → ∀ (rest : List Cell) (st : List Int),
 eT vars states (t.flat ++ rest) st = bif (t.kind vars states).2 != 0 then (0, (t.kind vars states).2) else eT vars states rest ((t.kind vars states).1 :: st)
 | .leaf c, h, rest, st => by
   simp only [Tm.ok] at h
   have h7 : decide (c.op < 7) = true := by rcases fM c (by omega) with ⟨h1, _⟩ | ⟨_, _, h1⟩ | ⟨_, h1⟩ <;> first | exact decide_eq_true h1 | omega
   have hl := vw c vars states
   have e : (bif (bN c vars states).2 == 0 && (bN c vars states).1 == 0 then (8 : Int) else (bN c vars states).2) = (bN c vars states).2 := by
    cases hb : ((bN c vars states).2 == 0 && (bN c vars states).1 == 0)
    · rfl
    · simp only [Bool.and_eq_true, beq_iff_eq] at hb
      have := hl.1 hb.1; omega
   simp only [Tm.flat, List.cons_append, List.nil_append, eT, ff, h7, cond_true, e, Tm.kind]
 | .un c t, ⟨hw, ht⟩, rest, st => by
   have h7 : decide (c.op < 7) = false ∧ decide (c.op < 11) = true := by rcases fM c (by omega) with ⟨_, h1⟩ | ⟨h1, h2, _⟩ | ⟨_, h1⟩ <;> first | exact ⟨decide_eq_false (by omega), decide_eq_true (by omega)⟩ | omega
   rw [Tm.flat, List.append_assoc, iR vars states t ht]
   simp only [Tm.kind]
   cases hb : ((t.kind vars states).2 != 0)
   · have ho := qJ (cF c.op (t.kind vars states).1 0)
     simp only [cond_false, List.cons_append, List.nil_append, eT, ff, h7.1, h7.2, cond_true, List.getD_cons_zero, ho.1, unK, List.drop_one, List.tail_cons]
     cases hb2 : ((gG (cF c.op (t.kind vars states).1 0)).2 != 0)
     · have : (gG (cF c.op (t.kind vars states).1 0)).2 = 0 := by simpa using hb2
       simp only [cond_false, ho.2 this]
     · rfl
   · simp only [cond_true, hb]
 | .bin c t u, ⟨hw, ht, hu⟩, rest, st => by
   have h7 : decide (c.op < 7) = false ∧ decide (c.op < 11) = false := by rcases fM c (by omega) with ⟨_, h1⟩ | ⟨_, _, h1⟩ | ⟨h1, _⟩ <;> first | exact ⟨decide_eq_false (by omega), decide_eq_false (by omega)⟩ | omega
   rw [Tm.flat, List.append_assoc, List.append_assoc, iR vars states t ht]
   simp only [Tm.kind]
   cases hb : ((t.kind vars states).2 != 0)
   · simp only [cond_false]
     rw [iR vars states u hu]
     cases hb3 : ((u.kind vars states).2 != 0)
     · have ho := qJ (cF c.op (t.kind vars states).1 (u.kind vars states).1)
       simp only [cond_false, List.cons_append, List.nil_append, eT, ff, h7.1, h7.2, List.getD_cons_zero, List.getD_cons_succ, ho.1, Eb, List.drop_succ_cons, List.drop_zero]
       cases hb2 : ((gG (cF c.op (t.kind vars states).1 (u.kind vars states).1)).2 != 0)
       · have : (gG (cF c.op (t.kind vars states).1 (u.kind vars states).1)).2 = 0 := by simpa using hb2
         simp only [cond_false, ho.2 this]
       · rfl
     · simp only [cond_true, hb3]
   · simp only [cond_true, hb]
theorem yi (vars : List Var) (states : List (List UInt8)) {t : Tm} (h : t.ok) (hl : t.flat.length ≤ 32) : bY t.flat vars states = t.kind vars states := by
 have := iR vars states t h [] []
 rw [List.append_nil] at this
 simp only [bY, Fu h hl, Bool.not_true, cond_false, this, eT]
 have hk := t.kind_one vars states
 cases hb : ((t.kind vars states).2 != 0)
 · have h0 : (t.kind vars states).2 = 0 := by simpa using hb
   simp only [cond_false, List.getLastD_cons, List.getLastD_nil]; rw [← h0]
 · simp only [cond_true]
   have := hk.2 (by simpa using hb)
   rw [← this]
/-! ### the document's rules -/
def Gq (op a : Int) : Int × Int :=
 bif op == 7 && a != 2 then (a, 0) else bif op == 8 && a == 2 then (a, 0) else bif decide (op > 8) && a == 3 then (1, 0) else (0, 8)
def fI (op k : Int) : Int × Int :=
 bif op == 16 || op == 17 then (2, 0)
 else bif op == 22 || op == 23 then (bif k == 2 then (k, 0) else (0, 8))
 else bif decide (op ≥ 18) then (bif k == 1 then (2, 0) else (0, 8))
 else bif decide (op ≥ 14) then (bif k == 1 then (k, 0) else (0, 8))
 else bif k != 2 then (k, 0) else (0, 8)
def DC (op a b : Int) : Int × Int := bif a != b then (0, 8) else fI op a
theorem Ji (op a : Int) (h1 : 7 ≤ op) (h2 : op < 11) (h3 : 1 ≤ a) (h4 : a ≤ 3) : Gq op a = unK op a := by
 have ho : op = 7 ∨ op = 8 ∨ op = 9 ∨ op = 10 := by omega
 have ha : a = 1 ∨ a = 2 ∨ a = 3 := by omega
 rcases ho with rfl | rfl | rfl | rfl <;> rcases ha with rfl | rfl | rfl <;> rfl
theorem Iu (op a b : Int) (h1 : 11 ≤ op) (h2 : op ≤ 23) (h3 : 1 ≤ a) (h4 : a ≤ 3) (h5 : 1 ≤ b) (h6 : b ≤ 3) : DC op a b = Eb op a b := by
 have ho : op = 11 ∨ op = 12 ∨ op = 13 ∨ op = 14 ∨ op = 15 ∨ op = 16 ∨ op = 17 ∨ op = 18 ∨ op = 19 ∨ op = 20 ∨ op = 21 ∨ op = 22 ∨ op = 23 := by omega
 have ha : a = 1 ∨ a = 2 ∨ a = 3 := by omega
 have hb : b = 1 ∨ b = 2 ∨ b = 3 := by omega
 rcases ho with rfl | rfl | rfl | rfl | rfl | rfl | rfl | rfl | rfl | rfl | rfl | rfl | rfl <;> rcases ha with rfl | rfl | rfl <;> rcases hb with rfl | rfl | rfl <;> rfl
def gB (k:Int) (c:UInt8):Bool :=
 !(decide ((c.toNat:Int)≥97)&&decide ((c.toNat:Int)≤122))&&(k==0 || !(decide ((c.toNat:Int)≥48)&&decide ((c.toNat:Int)≤57)||(c.toNat:Int)==95))
def j2 (s:List UInt8):Bool:=decide (av s<1)||decide (av s>12)||s==[116,114,117,101]||s==[102,97,108,115,101]||s==[105,110]||s==[114,101]||s==[105,109]
variable (op:Int) {k:Nat} (a:Int) (l:List Cell) (s:Str) {c:UInt8} (Γ:Ctx)
theorem wD (hk:k≠0) (h:gB k c=true):jv c=true:=by
 have hk':((k:Int)==0)=false:=by simp; omega
 simp only [gB,hk',aW,ae,aB,cg,an,decide_eq_false_iff_not,jv,aS,decide_eq_true_eq,bne_iff_ne,beq_eq_false_iff_ne] at *
 omega
theorem yq (h:gB k c=false):jv c=false:=by
 cases hb:jv c
 · rfl
 · exfalso
   have h':gB k c=true:=by
    cases hk:((k:Int)==0) <;>
    simp only [gB,hk,aW,bx,cZ,ae,aB,cg,an,decide_eq_false_iff_not,jv,aS,decide_eq_true_eq,bne_iff_ne,beq_eq_false_iff_ne] at * <;> omega
   rw [h] at h'; cases h'
theorem BT {s:List UInt8} (h:j2 s=true):aX s=false:=by
 simp only [j2,aS,decide_eq_true_eq,beq_iff_eq] at h
 cases hn:aX s
 · rfl
 · exfalso
   simp only [aX,iY,mU,ae,aB,an,decide_eq_false_iff_not,beq_eq_false_iff_ne] at hn
   have hl:s=[]∨1≤av s:=by cases s <;> simp [av]; omega
   rcases h with (((((h | h) | h) | h) | h) | h) | h
   · rcases hl with hl | hl
     · exact hn.1.1.1.1.1 hl
     · omega
   · exact hn.1.1.1.1.2 h
   all_goals first | exact hn.2.1.1.1.1 h | exact hn.2.1.1.1.2 h | exact hn.2.1.1.2 h | exact hn.2.1.2 h | exact hn.2.2 h
abbrev zFd1:List PI:=[.code [1,1,0,1,0,0],.inLoop [1,1,0,1,0,0],.inBlock 0,.code [1,1,1]]
theorem sT (h0:j2 s=false):∀ (n k:Nat),s.length - k≤n→k≤s.length→(∀ j,j<k→gB j (s.getD j 0)=false) →
 J Tryz.prog 52 (aA Tryz.f52) Γ (Eq2 (.x (.b (aX s))) []) zFd1 ({ n:=76,fr:=[(0,.p (.str s)),(2,.p (.bool false)),(3,.i k)],ck:=[],kn:=[2] }):=by
 have hlen:s.length≤12∧1≤s.length:=by
  simp only [j2,an,decide_eq_false_iff_not,av] at h0
  have h1:=of_decide_eq_false h0.1.1.1.1.1.1
  have h2:=of_decide_eq_false h0.1.1.1.1.1.2
  omega
 intro n
 induction n with
 | zero=>?_
 | succ n ih=>?_
 all_goals
  intro k hn hk hb
  refine jg aT Tryz.func52 (let x1:=(↑((List.getD s k (0:UInt8)).toNat):Int); let x2:=((0:Int)≤(k:Int)∧(k:Int)<av s); .ite (decide ((k:Int)<av s)) (.need x2 (.need (decide (x1≥97)=true→(0:Int)≤(k:Int)∧(k:Int)<av s) (.need x2 (.need (decide (x1≥48)=true→(0:Int)≤(k:Int)∧(k:Int)<av s) (.need ((decide (x1≥48)&&decide (x1≤57))=false→(0:Int)≤(k:Int)∧(k:Int)<av s) (.ite (!(decide (x1≥97)&&decide (x1≤122))&&((k:Int)==0 || !(decide (x1≥48)&&decide (x1≤57)||x1==95))) (.ret (.p (.bool false)) []) (.stop zFd1 { n:=76,fr:=[(0,.p (.str s)),(2,.p (.bool false)),(3,.i (IntKind.wrap .i64 ((k:Int)+1)))],ck:=[],kn:=[2] }))))))) (.ret (.p (.bool true)) [])) ?_
  conv=>zeta
  have inb:decide ((k:Int)<av s)=true→0≤(k:Int)∧(k:Int)<av s:=fun h=>⟨by omega,of_decide_eq_true h⟩
  refine ⟨fun hlt=>⟨inb hlt,fun _=>inb hlt,inb hlt,fun _=>inb hlt,fun _=>inb hlt,fun hbad=>⟨?_,rfl⟩,fun hok=>?_⟩,fun hge=>⟨?_,rfl⟩⟩
  · have hbad':gB k (s.getD k 0)=true:=hbad
    have hlt':=of_decide_eq_true hlt
    simp only [av] at hlt'
    have e:aX s=false:=by
     by_cases hz:k=0
     · subst hz
       have:iY s=true:=by
        simp only [gB,ae,aB,cg,decide_eq_false_iff_not] at hbad'
        simp only [iY,aS,decide_eq_true_eq]
        omega
       simp [aX,this]
     · simp [aX,tZ (by omega) (wD hz hbad')]
    rw [e]
  · have hok':gB k (s.getD k 0)=false:=hok
    have hlt':=of_decide_eq_true hlt
    simp only [av] at hlt'
    first
    | (exfalso; omega)
    | (rw [a6 (by omega)]
       exact ih (k+1) (by omega) (by omega) fun j hj=>if e:j=k then by rw [e]; exact hok' else hb j (by omega))
  · have hge':=of_decide_eq_false hge
    simp only [av] at hge'
    have hany:s.any jv=false:=nh fun j hj=>yq (hb j (by omega))
    have h00:=hb 0 (by omega)
    simp only [gB,Int.ofNat_eq_natCast,cg,dp,ae,decide_eq_true_eq] at h00
    simp only [j2,an,decide_eq_false_iff_not] at h0
    have hne:(s==[])=false:=by cases s with | nil=>simp at hlen | cons=>rfl
    have hn0:iY s=false:=by
     simp only [iY,hne,aW,an,decide_eq_false_iff_not]
     rcases h00 with h | h
     · refine ⟨⟨by omega,by omega⟩,by omega⟩
     · simp at h
    have hw5:mU s=false:=by simp [mU,h0]
    simp [aX,hany,hn0,hw5]
theorem sW:ag Tryz.prog 52 [.s s] [] (.x (.b (aX s))) []:=by
 refine dg aT Tryz.func52 (.ite (decide (av s<(1:Int))||decide (av s>(12:Int))||s==[116,114,117,101]||s==[102,97,108,115,101]||s==[105,110]||s==[114,101]||s==[105,109]) (.ret (.p (.bool false)) []) (.stop zFd1 { n:=76,fr:=[(0,.p (.str s)),(2,.p (.bool false)),(3,.i 0)],ck:=[],kn:=[2] })) fun Γ=>?_
 refine ⟨fun h=>⟨?_,rfl⟩,fun h=>?_⟩
 · rw [BT h]
 · exact sT s Γ h s.length 0 (by omega) (by omega) (fun j hj=>by omega)
def mu:Ent:=(52,fun
 | [.c (.pd (.str s))],[]=>some (none,.x (.c (.pd (.bool (aX s)))),[])
 | _,_=>none)
theorem kQ:EntOk Tryz.prog mu:=entOk fun vs ck=>by
 unfold mu; dsimp only; split
 · rename_i s; exact entS fun hp=>sW s
 · exact entN
def Cr:Cfg:=⟨bb,[mu]⟩
theorem Bn:af Tryz.prog Cr.tab:=(af.cons kQ af.nil)
theorem w7 (s:List UInt8) :
 (bif (!((op==5||op==6)==decide (av s>0))||(op==5||op==6) && !aX s || !(op==1||op==2)&&a != 0||decide (a<0)) then (-1:Int)
  else bif (op==1&&decide (a>1099511627776)||op==2&&decide (a>1048576)||decide (op<1)||decide (op>23)) then -1
  else bif decide (op≤6) then 0 else bif decide (op≤10) then 1 else 2)=cw op a s:=by
 have hs:decide (av s>0) = !(s==[]):=by cases s <;> simp [av]
 rw [hs]
 have hn:(s==[])=true→aX s=false:=by
  intro h; have:s=[]:=by simpa using h
  subst this; rfl
 unfold cw
 generalize hx:(s==[])=x at *
 generalize aX s=y at *
 by_cases h1:op=1
 · subst h1
   cases x <;> simp [cond_eq_ite] <;> (repeat' split) <;> omega
 · by_cases h2:op=2
   · subst h2
     cases x <;> simp [cond_eq_ite] <;> (repeat' split) <;> omega
   · by_cases h5:op=5
     · subst h5
       cases x <;> cases y <;> simp_all [cond_eq_ite] <;> (repeat' split) <;> omega
     · by_cases h6:op=6
       · subst h6
         cases x <;> cases y <;> simp_all [cond_eq_ite] <;> (repeat' split) <;> omega
       · cases x <;> simp_all [cond_eq_ite] <;> (repeat' split) <;> omega
theorem sM:ag Tryz.prog 197 [.agg [.i op,.i a,.pd (.str s)]] [] (.x (.i (cw op a s))) []:=by
 rw [← w7]
 refine dg Bn Tryz.func197 (.ite (!(op==(5:Int)||op==(6:Int))==decide (av s>(0:Int))||(op==(5:Int)||op==(6:Int)) && !aX s || !(op==(1:Int)||op==(2:Int))&&a != (0:Int)||decide (a<(0:Int))) (.ret (.i (-1:Int)) []) (.ite (op==(1:Int)&&decide (a>(1099511627776:Int))||op==(2:Int)&&decide (a>(1048576:Int))||decide (op<(1:Int))||decide (op>(23:Int))) (.ret (.i (-1:Int)) []) (.ite (decide (op≤(6:Int))) (.ret (.i 0) []) (.ite (decide (op≤(10:Int))) (.ret (.i 1) []) (.ret (.i 2) []))))) fun Γ=>?_
 refine ⟨fun h=>?_,fun h=>⟨fun h1=>?_,fun h1=>⟨fun h2=>?_,fun h2=>⟨fun h3=>?_,fun h3=>?_⟩⟩⟩⟩
 all_goals
  refine ⟨?_,rfl⟩
  simp only [*,cond_true,cond_false]
def vh:Ent:=(197,fun
 | [.agg [.pd (.int .i64 op),.pd (.int .i64 a),.pd (.str s)]],[]=>some (none,.x (.c (.pd (.int .i64 (cw op a s)))),[])
 | _,_=>none)
theorem xX:EntOk Tryz.prog vh:=entOk fun vs ck=>by
 unfold vh; dsimp only; split
 · rename_i op a s; exact entS fun hp=>sM op a s
 · exact entN
def pP:Cfg:=⟨bb,[vh]⟩
theorem mL:af Tryz.prog pP.tab:=(af.cons xX af.nil)
theorem qO:∀ (n k:Nat) (m:Int),33 - k≤n→k≤l.length→k≤32→0≤m→m≤k →
 J Tryz.prog 164 (aA Tryz.f164) Γ (Eq2 (.x (.b (!decide ((l.length:Int)>32)&&cd (l.drop k) m))) []) zFd1 ({ n:=34,fr:=[(0,.p (.lst .cell l)),(2,.p (.bool false)),(3,.i m),(4,.i k)],ck:=[],kn:=[2] }):=by
 intro n
 induction n with
 | zero=>intro k m h1 h2 h3; omega
 | succ n ih=>?_
 intro k m hn hk hk32 hm0 hm
 refine jg mL Tryz.func164 (let x1:=(Cell.name (ETy.get .cell l k)); let x2:=(Cell.op (ETy.get .cell l k)); let x3:=(Cell.a (ETy.get .cell l k)); .ite (decide ((k:Int)<(l.length:Int))) (.need (inRg k l.length) (.ite (decide (cw x2 x3 x1<(0:Int))||decide (m<cw x2 x3 x1)||decide ((k:Int)≥32)) (.ret (.p (.bool false)) []) (.stop zFd1 { n:=34,fr:=[(0,.p (.lst .cell l)),(2,.p (.bool false)),(3,.i (IntKind.wrap .i64 (IntKind.wrap .i64 (m - cw x2 x3 x1)+(1:Int)))),(4,.i (IntKind.wrap .i64 ((k:Int)+1)))],ck:=[],kn:=[2] }))) (.ret (.p (.bool (m==(1:Int)))) [])) ?_
 conv=>zeta
 refine ⟨fun hlt=>?_,fun hge=>⟨?_,rfl⟩⟩
 · have hk':k<l.length:=by have:=of_decide_eq_true hlt; omega
   refine ⟨⟨by omega,by omega⟩,?_⟩
   rw [bO (t:=.cell) hk']
   generalize ETy.get .cell l k=c
   refine ⟨fun h=>⟨?_,rfl⟩,fun h=>?_⟩
   · have h':(decide (a7 c<0)||decide (m<a7 c)||decide ((k:Int)≥32))=true:=h
     simp only [aS] at h'
     have e:(!decide ((l.length:Int)>32)&&cd (c::l.drop (k+1)) m)=false:=by
      rcases h' with h | h
      · have h':(decide (a7 c<0)||decide (a7 c>m))=true:=by
         rcases h with h | h
         · rw [h]; rfl
         · have:decide (a7 c>m)=true:=h
           rw [this,Bool.or_true]
        simp only [cd,h',cond_true,cr]
      · have:decide ((l.length:Int)>32)=true:=decide_eq_true (by have:=of_decide_eq_true h; omega)
        rw [this]; rfl
     rw [e]
   · have h':(decide (a7 c<0)||decide (m<a7 c)||decide ((k:Int)≥32))=false:=h
     simp only [an] at h'
     have h1:=of_decide_eq_false h'.1.1
     have h2:=of_decide_eq_false h'.1.2
     have h3:=of_decide_eq_false h'.2
     show J Tryz.prog 164 (aA Tryz.f164) Γ _ zFd1 ({ n:=34,fr:=[(0,.p (.lst .cell l)),(2,.p (.bool false)),(3,.i (IntKind.wrap .i64 (IntKind.wrap .i64 (m - a7 c)+1))),(4,.i (IntKind.wrap .i64 ((k:Int)+1)))],ck:=[],kn:=[2] })
     have e1:IntKind.wrap IntKind.i64 (IntKind.wrap IntKind.i64 (m - a7 c)+1)=m+(1 - a7 c):=by
      rw [ct (n:=m - _) (by omega) (by omega),ct (by omega) (by omega)]; omega
     have e2:cd (c::l.drop (k+1)) m=cd (l.drop (k+1)) (m+(1 - a7 c)):=by
      have hb':(decide (a7 c<0)||decide (a7 c>m))=false:=by
       rw [an]; exact ⟨decide_eq_false h1,decide_eq_false (by omega)⟩
      simp only [cd,hb',cond_false]
     rw [e1,e2,a6 (by omega)]
     exact ih (k+1) (m+(1 - a7 c)) (by omega) (by omega) (by omega) (by omega) (by omega)
 · have h2:=of_decide_eq_false hge
   rw [bX (by omega),cd,show decide ((l.length:Int)>32)=false from decide_eq_false (by omega)]; rfl
theorem ra:ag Tryz.prog 164 [.l .cell l] [] (.x (.b (dB l))) []:=by
 refine dg mL Tryz.func164 (.stop zFd1 { n:=34,fr:=[(0,.p (.lst .cell l)),(2,.p (.bool false)),(3,.i 0),(4,.i 0)],ck:=[],kn:=[2] }) fun Γ=>?_
 exact qO l Γ 33 0 0 (by omega) (by omega) (by omega) (by omega) (by omega)
def kS:Ent:=(164,fun
 | [.c (.pd (.lst .cell l))],[]=>some (none,.x (.c (.pd (.bool (dB l)))),[])
 | _,_=>none)
theorem qA:EntOk Tryz.prog kS:=entOk fun vs ck=>by
 unfold kS; dsimp only; split
 · rename_i l; exact entS fun hp=>ra l
 · exact entN
end Go.Proofs.YtcopfgbbjdefbaaGreatDoor

/- Plain laws: lists of cells as trees; the kinds of trees. Conditions: none. Contracts: the document's names, operands, right lists. Conditions: none. -/
import Derived.Test.YtcopfgbbjdefbaaGreatDoorFc
namespace Go.Proofs.YtcopfgbbjdefbaaGreatDoor
open Go Go.Ev
set_option maxRecDepth 100000
theorem fO (c : Cell) (h : a6 c ≥ 0) : (c.op < 7 ∧ a6 c = 0) ∨ (7 ≤ c.op ∧ c.op < 11 ∧ a6 c = 1) ∨ (11 ≤ c.op ∧ a6 c = 2) := by
 rcases lV c h with ⟨h1, h2⟩ | ⟨h1, h2, h3⟩ | ⟨h1, h2⟩
 · exact .inl ⟨h2, h1⟩
 · exact .inr (.inl ⟨h2, h3, h1⟩)
 · exact .inr (.inr ⟨h2, h1⟩)
inductive Tm where
 | leaf (c : Cell)
 | un (c : Cell) (t : Tm)
 | bin (c : Cell) (t u : Tm)
def Tm.flat : Tm → List Cell
 | .leaf c => [c]
 | .un c t => t.flat ++ [c]
 | .bin c t u => t.flat ++ u.flat ++ [c]
def Tm.ok : Tm → Prop
 | .leaf c => a6 c = 0
 | .un c t => a6 c = 1 ∧ t.ok
 | .bin c t u => a6 c = 2 ∧ t.ok ∧ u.ok
theorem Tm.flat_pos (t : Tm) : 1 ≤ t.flat.length := by cases t <;> simp only [Tm.flat, List.length_append, List.length_cons, List.length_nil] <;> omega
def lK : List Tm → List Cell
 | [] => []
 | t :: r => lK r ++ t.flat
theorem ja : ∀ (rest : List Cell) (ts : List Tm), (∀ t ∈ ts, t.ok) → cb rest ts.length = true → ∃ t : Tm, t.ok ∧ t.flat = lK ts ++ rest
 | [], ts, hok, h => by
   simp only [cb] at h
   have h1 : ts.length = 1 := by have h2 : (ts.length : Int) = 1 := (by simpa using h); omega
   obtain ⟨t, rfl⟩ := List.length_eq_one_iff.1 h1
   exact ⟨t, hok t (by simp), by simp [lK]⟩
 | c :: rest, ts, hok, h => by
   simp only [cb] at h
   cases hb : (decide (a6 c < 0) || decide (a6 c > (ts.length : Int)))
   · rw [hb, cond_false] at h
     simp only [Bool.or_eq_false_iff] at hb
     have h1 := of_decide_eq_false hb.1
     have h2 := of_decide_eq_false hb.2
     rcases fO c (by omega) with ⟨_, hw⟩ | ⟨_, _, hw⟩ | ⟨_, hw⟩
     · obtain ⟨t, q1, q2⟩ := ja rest (.leaf c :: ts) (by intro t ht; rcases List.mem_cons.1 ht with rfl | ht; exact hw; exact hok t ht) (by rw [← h]; congr 1; simp only [List.length_cons]; omega)
       exact ⟨t, q1, by rw [q2]; simp [lK, Tm.flat]⟩
     · cases ts with
       | nil => simp at h2; omega
       | cons a ts =>
         obtain ⟨t, q1, q2⟩ := ja rest (.un c a :: ts) (by intro t ht; rcases List.mem_cons.1 ht with rfl | ht; exact ⟨hw, hok a (by simp)⟩; exact hok t (by simp [ht])) (by rw [← h]; congr 1; simp only [List.length_cons]; omega)
         exact ⟨t, q1, by rw [q2]; simp [lK, Tm.flat]⟩
     · cases ts with
       | nil => simp at h2; omega
       | cons a ts => cases ts with
         | nil => simp at h2; omega
         | cons b ts =>
           obtain ⟨t, q1, q2⟩ := ja rest (.bin c b a :: ts) (by intro t ht; rcases List.mem_cons.1 ht with rfl | ht; exact ⟨hw, hok b (by simp), hok a (by simp)⟩; exact hok t (by simp [ht])) (by rw [← h]; congr 1; simp only [List.length_cons]; omega)
           exact ⟨t, q1, by rw [q2]; simp [lK, Tm.flat]⟩
   · rw [hb] at h; simp at h
theorem Et {l : List Cell} (h : dx l = true) : l.length ≤ 32 ∧ ∃ t : Tm, t.ok ∧ t.flat = l := by
 simp only [dx, Bool.and_eq_true, Bool.not_eq_true', decide_eq_false_iff_not] at h
 obtain ⟨t, h1, h2⟩ := ja l [] (by simp) (by simpa using h.2)
 exact ⟨by omega, t, h1, by simpa [lK] using h2⟩
theorem il (rest : List Cell) : ∀ (t : Tm), t.ok → ∀ n : Int, 0 ≤ n → cb (t.flat ++ rest) n = cb rest (n + 1)
 | .leaf c, h, n, hn => by
   simp only [Tm.ok] at h
   simp [Tm.flat, cb, h, show ¬ (n < 0) from by omega]
 | .un c t, h, n, hn => by
   obtain ⟨hw, ht⟩ := h
   rw [Tm.flat, List.append_assoc, il _ t ht n hn]
   simp [cb, hw, show ¬ (n + 1 < 1) from by omega]
 | .bin c t u, h, n, hn => by
   obtain ⟨hw, ht, hu⟩ := h
   rw [Tm.flat, List.append_assoc, List.append_assoc, il _ t ht n hn, il _ u hu _ (by omega)]
   have : ¬ (n + 1 + 1 < 2) := by omega
   simp only [List.cons_append, List.nil_append, cb, hw, show decide ((2 : Int) < 0) = false from rfl, Bool.false_or, show decide ((2 : Int) > n + 1 + 1) = false from by simpa using this, cond_false]
   congr 1; omega
theorem Fp {t : Tm} (h : t.ok) (hl : t.flat.length ≤ 32) : dx t.flat = true := by
 have := il [] t h 0 (by omega)
 rw [List.append_nil] at this
 simp only [dx, this, cb, Bool.and_eq_true, Bool.not_eq_true', decide_eq_false_iff_not]
 exact ⟨by omega, rfl⟩
/-! ### kinds -/
def gL (k : Int) : Int × Int := bif k == 0 then (0, 8) else (k, 0)
def unK (op a : Int) : Int × Int := gL (cC op a 0)
def E7 (op a b : Int) : Int × Int := gL (cC op a b)
def Tm.kind (vars : List Var) (states : List (List UInt8)) : Tm → Int × Int
 | .leaf c => bN c vars states
 | .un c t => bif (t.kind vars states).2 != 0 then (0, (t.kind vars states).2) else unK c.op (t.kind vars states).1
 | .bin c t u => bif (t.kind vars states).2 != 0 then (0, (t.kind vars states).2) else bif (u.kind vars states).2 != 0 then (0, (u.kind vars states).2) else E7 c.op (t.kind vars states).1 (u.kind vars states).1
def OneKind (p : Int × Int) : Prop := (p.2 = 0 → 1 ≤ p.1 ∧ p.1 ≤ 3) ∧ (p.2 ≠ 0 → p.1 = 0)
theorem OneKind.ok {k : Int} (h1 : 1 ≤ k) (h2 : k ≤ 3) : OneKind (k, 0) := ⟨fun _ => ⟨h1, h2⟩, fun h => absurd rfl h⟩
theorem OneKind.err {e : Int} (h : e ≠ 0) : OneKind (0, e) := ⟨fun h1 => absurd h1 h, fun _ => rfl⟩
theorem tP (c : Cell) (vars : List Var) (states : List (List UInt8)) : OneKind (bN c vars states) := by
 unfold bN
 cases c.op == 1
 · cases c.op == 2
   · cases c.op == 5
     · cases c.op == 6
       · exact .ok (by decide) (by decide)
       · cases !(states.any fun s => s == c.name)
         · exact .ok (by decide) (by decide)
         · exact .err (by decide)
     · show OneKind (match gr vars c.name with
        | none => (0, 2)
        | some v => bif decide (v.kind ≥ 1) && decide (v.kind ≤ 3) then (v.kind, 0) else (0, 8))
       cases gr vars c.name with
       | none => exact .err (by decide)
       | some v =>
         cases hk : (decide (v.kind ≥ 1) && decide (v.kind ≤ 3))
         · simp only [hk, cond_false]; exact .err (by decide)
         · simp only [hk, cond_true]
           simp only [Bool.and_eq_true, decide_eq_true_eq] at hk
           exact .ok (by omega) (by omega)
   · exact .ok (by decide) (by decide)
 · exact .ok (by decide) (by decide)
theorem pT (op l r : Int) : 0 ≤ cC op l r ∧ cC op l r ≤ 3 := by
 have h : ∀ rows : List KRow, (∀ k ∈ rows, 0 ≤ k.out ∧ k.out ≤ 3) → 0 ≤ gG op l r rows ∧ gG op l r rows ≤ 3 := by
  intro rows
  induction rows with
  | nil => intro _; exact ⟨by simp [gG], by simp [gG]⟩
  | cons k rows ih =>
    intro hk
    simp only [gG]
    cases tq op l r k
    · exact ih fun x hx => hk x (List.mem_cons_of_mem _ hx)
    · exact hk k List.mem_cons_self
 exact h oa (by decide)
theorem rI (k : Int) (h : 0 ≤ k ∧ k ≤ 3) : OneKind (gL k) := by
 unfold gL
 cases hk : (k == 0)
 · have : k ≠ 0 := by simpa using hk
   exact .ok (by omega) (by omega)
 · exact .err (by decide)
theorem Tm.kind_one (vars : List Var) (states : List (List UInt8)) (t : Tm) : OneKind (t.kind vars states) := by
 cases t with
 | leaf c => exact tP c vars states
 | un c t =>
   simp only [Tm.kind]
   cases hb : ((t.kind vars states).2 != 0)
   · exact rI _ (pT _ _ _)
   · exact .err (by simpa using hb)
 | bin c t u =>
   simp only [Tm.kind]
   cases hb : ((t.kind vars states).2 != 0)
   · cases hb2 : ((u.kind vars states).2 != 0)
     · exact rI _ (pT _ _ _)
     · exact .err (by simpa using hb2)
   · exact .err (by simpa using hb)
theorem qu (k : Int) : (bif (0 : Int) == 0 && k == 0 then (8 : Int) else 0) = (gL k).2 ∧ ((gL k).2 = 0 → (gL k).1 = k) := by
 unfold gL
 cases hk : (k == 0) <;> simp
theorem iV (vars : List Var) (states : List (List UInt8)) : ∀ (t : Tm), t.ok → ∀ (rest : List Cell) (st : List Int),
 fc vars states (t.flat ++ rest) st = bif (t.kind vars states).2 != 0 then (0, (t.kind vars states).2) else fc vars states rest ((t.kind vars states).1 :: st)
 | .leaf c, h, rest, st => by
   simp only [Tm.ok] at h
   have h7 : decide (c.op < 7) = true := by rcases fO c (by omega) with ⟨h1, _⟩ | ⟨_, _, h1⟩ | ⟨_, h1⟩ <;> first | exact decide_eq_true h1 | omega
   have hl := tP c vars states
   have e : (bif (bN c vars states).2 == 0 && (bN c vars states).1 == 0 then (8 : Int) else (bN c vars states).2) = (bN c vars states).2 := by
    cases hb : ((bN c vars states).2 == 0 && (bN c vars states).1 == 0)
    · rfl
    · simp only [Bool.and_eq_true, beq_iff_eq] at hb
      have := hl.1 hb.1; omega
   simp only [Tm.flat, List.cons_append, List.nil_append, fc, ff, h7, cond_true, e, Tm.kind]
 | .un c t, ⟨hw, ht⟩, rest, st => by
   have h7 : decide (c.op < 7) = false ∧ decide (c.op < 11) = true := by rcases fO c (by omega) with ⟨_, h1⟩ | ⟨h1, h2, _⟩ | ⟨_, h1⟩ <;> first | exact ⟨decide_eq_false (by omega), decide_eq_true (by omega)⟩ | omega
   rw [Tm.flat, List.append_assoc, iV vars states t ht]
   simp only [Tm.kind]
   cases hb : ((t.kind vars states).2 != 0)
   · have ho := qu (cC c.op (t.kind vars states).1 0)
     simp only [cond_false, List.cons_append, List.nil_append, fc, ff, h7.1, h7.2, cond_true, List.getD_cons_zero, ho.1, unK, List.drop_one, List.tail_cons]
     cases hb2 : ((gL (cC c.op (t.kind vars states).1 0)).2 != 0)
     · have : (gL (cC c.op (t.kind vars states).1 0)).2 = 0 := by simpa using hb2
       simp only [cond_false, ho.2 this]
     · rfl
   · simp only [cond_true, hb]
 | .bin c t u, ⟨hw, ht, hu⟩, rest, st => by
   have h7 : decide (c.op < 7) = false ∧ decide (c.op < 11) = false := by rcases fO c (by omega) with ⟨_, h1⟩ | ⟨_, _, h1⟩ | ⟨h1, _⟩ <;> first | exact ⟨decide_eq_false (by omega), decide_eq_false (by omega)⟩ | omega
   rw [Tm.flat, List.append_assoc, List.append_assoc, iV vars states t ht]
   simp only [Tm.kind]
   cases hb : ((t.kind vars states).2 != 0)
   · simp only [cond_false]
     rw [iV vars states u hu]
     cases hb3 : ((u.kind vars states).2 != 0)
     · have ho := qu (cC c.op (t.kind vars states).1 (u.kind vars states).1)
       simp only [cond_false, List.cons_append, List.nil_append, fc, ff, h7.1, h7.2, List.getD_cons_zero, List.getD_cons_succ, ho.1, E7, List.drop_succ_cons, List.drop_zero]
       cases hb2 : ((gL (cC c.op (t.kind vars states).1 (u.kind vars states).1)).2 != 0)
       · have : (gL (cC c.op (t.kind vars states).1 (u.kind vars states).1)).2 = 0 := by simpa using hb2
         simp only [cond_false, ho.2 this]
       · rfl
     · simp only [cond_true, hb3]
   · simp only [cond_true, hb]
theorem yN (vars : List Var) (states : List (List UInt8)) {t : Tm} (h : t.ok) (hl : t.flat.length ≤ 32) : bZ t.flat vars states = t.kind vars states := by
 have := iV vars states t h [] []
 rw [List.append_nil] at this
 simp only [bZ, Fp h hl, Bool.not_true, cond_false, this, fc]
 have hk := t.kind_one vars states
 cases hb : ((t.kind vars states).2 != 0)
 · have h0 : (t.kind vars states).2 = 0 := by simpa using hb
   simp only [cond_false, List.getLastD_cons, List.getLastD_nil]; rw [← h0]
 · simp only [cond_true]
   have := hk.2 (by simpa using hb)
   rw [← this]
/-! ### the document's rules -/
def Gb (op a : Int) : Int × Int :=
 bif op == 7 && a != 2 then (a, 0) else bif op == 8 && a == 2 then (a, 0) else bif decide (op > 8) && a == 3 then (1, 0) else (0, 8)
def fN (op k : Int) : Int × Int :=
 bif op == 16 || op == 17 then (2, 0)
 else bif op == 22 || op == 23 then (bif k == 2 then (k, 0) else (0, 8))
 else bif decide (op ≥ 18) then (bif k == 1 then (2, 0) else (0, 8))
 else bif decide (op ≥ 14) then (bif k == 1 then (k, 0) else (0, 8))
 else bif k != 2 then (k, 0) else (0, 8)
def Br (op a b : Int) : Int × Int := bif a != b then (0, 8) else fN op a
theorem Jc (op a : Int) (h1 : 7 ≤ op) (h2 : op < 11) (h3 : 1 ≤ a) (h4 : a ≤ 3) : Gb op a = unK op a := by
 have ho : op = 7 ∨ op = 8 ∨ op = 9 ∨ op = 10 := by omega
 have ha : a = 1 ∨ a = 2 ∨ a = 3 := by omega
 rcases ho with rfl | rfl | rfl | rfl <;> rcases ha with rfl | rfl | rfl <;> rfl
theorem Hs (op a b : Int) (h1 : 11 ≤ op) (h2 : op ≤ 23) (h3 : 1 ≤ a) (h4 : a ≤ 3) (h5 : 1 ≤ b) (h6 : b ≤ 3) : Br op a b = E7 op a b := by
 have ho : op = 11 ∨ op = 12 ∨ op = 13 ∨ op = 14 ∨ op = 15 ∨ op = 16 ∨ op = 17 ∨ op = 18 ∨ op = 19 ∨ op = 20 ∨ op = 21 ∨ op = 22 ∨ op = 23 := by omega
 have ha : a = 1 ∨ a = 2 ∨ a = 3 := by omega
 have hb : b = 1 ∨ b = 2 ∨ b = 3 := by omega
 rcases ho with rfl | rfl | rfl | rfl | rfl | rfl | rfl | rfl | rfl | rfl | rfl | rfl | rfl <;> rcases ha with rfl | rfl | rfl <;> rcases hb with rfl | rfl | rfl <;> rfl
def gF (k:Int) (c:UInt8):Bool :=
 !(decide ((c.toNat:Int)≥97)&&decide ((c.toNat:Int)≤122))&&(k==0 || !(decide ((c.toNat:Int)≥48)&&decide ((c.toNat:Int)≤57)||(c.toNat:Int)==95))
def kb (s:List UInt8):Bool:=decide (ax s<1)||decide (ax s>12)||s==[116,114,117,101]||s==[102,97,108,115,101]||s==[105,110]||s==[114,101]||s==[105,109]
variable (op:Int) {k:Nat} (a:Int) (l:List Cell) (s:Str) {c:UInt8} (Γ:Ctx)
theorem wq (hk:k≠0) (h:gF k c=true):jA c=true:=by
 have hk':((k:Int)==0)=false:=by simp; omega
 simp only [gF,hk',aX,af,aD,cj,ay,decide_eq_false_iff_not,jA,aO,decide_eq_true_eq,bne_iff_ne,beq_eq_false_iff_ne] at *
 omega
theorem ym (h:gF k c=false):jA c=false:=by
 cases hb:jA c
 · rfl
 · exfalso
   have h':gF k c=true:=by
    cases hk:((k:Int)==0) <;>
    simp only [gF,hk,aX,bV,dn,af,aD,cj,ay,decide_eq_false_iff_not,jA,aO,decide_eq_true_eq,bne_iff_ne,beq_eq_false_iff_ne] at * <;> omega
   rw [h] at h'; cases h'
theorem Bn {s:List UInt8} (h:kb s=true):aU s=false:=by
 simp only [kb,aO,decide_eq_true_eq,beq_iff_eq] at h
 cases hn:aU s
 · rfl
 · exfalso
   simp only [aU,jb,nJ,af,aD,ay,decide_eq_false_iff_not,beq_eq_false_iff_ne] at hn
   have hl:s=[]∨1≤ax s:=by cases s <;> simp [ax]; omega
   rcases h with (((((h | h) | h) | h) | h) | h) | h
   · rcases hl with hl | hl
     · exact hn.1.1.1.1.1 hl
     · omega
   · exact hn.1.1.1.1.2 h
   all_goals first | exact hn.2.1.1.1.1 h | exact hn.2.1.1.1.2 h | exact hn.2.1.1.2 h | exact hn.2.1.2 h | exact hn.2.2 h
abbrev zFd1:List PI:=[.code [1,1,0,1,0,0],.inLoop [1,1,0,1,0,0],.inBlock 0,.code [1,1,1]]
theorem sJ (h0:kb s=false):∀ (n k:Nat),s.length - k≤n→k≤s.length→(∀ j,j<k→gF j (s.getD j 0)=false) →
 J Tryz.prog 52 (aw Tryz.f52) Γ (Eq2 (.x (.b (aU s))) []) zFd1 ({ n:=76,fr:=[(0,.p (.str s)),(2,.p (.bool false)),(3,.i k)],ck:=[],kn:=[2] }):=by
 have hlen:s.length≤12∧1≤s.length:=by
  simp only [kb,ay,decide_eq_false_iff_not,ax] at h0
  have h1:=of_decide_eq_false h0.1.1.1.1.1.1
  have h2:=of_decide_eq_false h0.1.1.1.1.1.2
  omega
 intro n
 induction n with
 | zero=>?_
 | succ n ih=>?_
 all_goals
  intro k hn hk hb
  refine jg aT Tryz.func52 (let x1:=(↑((List.getD s k (0:UInt8)).toNat):Int); let x2:=((0:Int)≤(k:Int)∧(k:Int)<ax s); .ite (decide ((k:Int)<ax s)) (.need x2 (.need (decide (x1≥97)=true→(0:Int)≤(k:Int)∧(k:Int)<ax s) (.need x2 (.need (decide (x1≥48)=true→(0:Int)≤(k:Int)∧(k:Int)<ax s) (.need ((decide (x1≥48)&&decide (x1≤57))=false→(0:Int)≤(k:Int)∧(k:Int)<ax s) (.ite (!(decide (x1≥97)&&decide (x1≤122))&&((k:Int)==0 || !(decide (x1≥48)&&decide (x1≤57)||x1==95))) (.ret (.p (.bool false)) []) (.stop zFd1 { n:=76,fr:=[(0,.p (.str s)),(2,.p (.bool false)),(3,.i (IntKind.wrap .i64 ((k:Int)+1)))],ck:=[],kn:=[2] }))))))) (.ret (.p (.bool true)) [])) ?_
  conv=>zeta
  have inb:decide ((k:Int)<ax s)=true→0≤(k:Int)∧(k:Int)<ax s:=fun h=>⟨by omega,of_decide_eq_true h⟩
  refine ⟨fun hlt=>⟨inb hlt,fun _=>inb hlt,inb hlt,fun _=>inb hlt,fun _=>inb hlt,fun hbad=>⟨?_,rfl⟩,fun hok=>?_⟩,fun hge=>⟨?_,rfl⟩⟩
  · have hbad':gF k (s.getD k 0)=true:=hbad
    have hlt':=of_decide_eq_true hlt
    simp only [ax] at hlt'
    have e:aU s=false:=by
     by_cases hz:k=0
     · subst hz
       have:jb s=true:=by
        simp only [gF,af,aD,cj,decide_eq_false_iff_not] at hbad'
        simp only [jb,aO,decide_eq_true_eq]
        omega
       simp [aU,this]
     · simp [aU,uR (by omega) (wq hz hbad')]
    rw [e]
  · have hok':gF k (s.getD k 0)=false:=hok
    have hlt':=of_decide_eq_true hlt
    simp only [ax] at hlt'
    first
    | (exfalso; omega)
    | (rw [aZ (by omega)]
       exact ih (k+1) (by omega) (by omega) fun j hj=>if e:j=k then by rw [e]; exact hok' else hb j (by omega))
  · have hge':=of_decide_eq_false hge
    simp only [ax] at hge'
    have hany:s.any jA=false:=mU fun j hj=>ym (hb j (by omega))
    have h00:=hb 0 (by omega)
    simp only [gF,Int.ofNat_eq_natCast,cj,dk,af,decide_eq_true_eq] at h00
    simp only [kb,ay,decide_eq_false_iff_not] at h0
    have hne:(s==[])=false:=by cases s with | nil=>simp at hlen | cons=>rfl
    have hn0:jb s=false:=by
     simp only [jb,hne,aX,ay,decide_eq_false_iff_not]
     rcases h00 with h | h
     · refine ⟨⟨by omega,by omega⟩,by omega⟩
     · simp at h
    have hw5:nJ s=false:=by simp [nJ,h0]
    simp [aU,hany,hn0,hw5]
theorem sT:ag Tryz.prog 52 [.s s] [] (.x (.b (aU s))) []:=by
 refine dg aT Tryz.func52 (.ite (decide (ax s<(1:Int))||decide (ax s>(12:Int))||s==[116,114,117,101]||s==[102,97,108,115,101]||s==[105,110]||s==[114,101]||s==[105,109]) (.ret (.p (.bool false)) []) (.stop zFd1 { n:=76,fr:=[(0,.p (.str s)),(2,.p (.bool false)),(3,.i 0)],ck:=[],kn:=[2] })) fun Γ=>?_
 refine ⟨fun h=>⟨?_,rfl⟩,fun h=>?_⟩
 · rw [Bn h]
 · exact sJ s Γ h s.length 0 (by omega) (by omega) (fun j hj=>by omega)
def nC:Ent:=(52,fun
 | [.c (.pd (.str s))],[]=>some (none,.x (.c (.pd (.bool (aU s)))),[])
 | _,_=>none)
theorem lv:EntOk Tryz.prog nC:=entOk fun vs ck=>by
 unfold nC; dsimp only; split
 · rename_i s; exact entS fun hp=>sT s
 · exact entN
def Be:Cfg:=⟨bk,[nC]⟩
theorem Df:ah Tryz.prog Be.tab:=(ah.cons lv ah.nil)
theorem wH (s:List UInt8) :
 (bif (!((op==5||op==6)==decide (ax s>0))||(op==5||op==6) && !aU s || !(op==1||op==2)&&a != 0||decide (a<0)) then (-1:Int)
  else bif (op==1&&decide (a>1099511627776)||op==2&&decide (a>1048576)||decide (op<1)||decide (op>23)) then -1
  else bif decide (op≤6) then 0 else bif decide (op≤10) then 1 else 2)=cu op a s:=by
 have hs:decide (ax s>0) = !(s==[]):=by cases s <;> simp [ax]
 rw [hs]
 have hn:(s==[])=true→aU s=false:=by
  intro h; have:s=[]:=by simpa using h
  subst this; rfl
 unfold cu
 generalize hx:(s==[])=x at *
 generalize aU s=y at *
 by_cases h1:op=1
 · subst h1
   cases x <;> simp [cond_eq_ite] <;> (repeat' split) <;> omega
 · by_cases h2:op=2
   · subst h2
     cases x <;> simp [cond_eq_ite] <;> (repeat' split) <;> omega
   · by_cases h5:op=5
     · subst h5
       cases x <;> cases y <;> simp_all [cond_eq_ite] <;> (repeat' split) <;> omega
     · by_cases h6:op=6
       · subst h6
         cases x <;> cases y <;> simp_all [cond_eq_ite] <;> (repeat' split) <;> omega
       · cases x <;> simp_all [cond_eq_ite] <;> (repeat' split) <;> omega
theorem sL:ag Tryz.prog 197 [.agg [.i op,.i a,.pd (.str s)]] [] (.x (.i (cu op a s))) []:=by
 rw [← wH]
 refine dg Df Tryz.func197 (.ite (!(op==(5:Int)||op==(6:Int))==decide (ax s>(0:Int))||(op==(5:Int)||op==(6:Int)) && !aU s || !(op==(1:Int)||op==(2:Int))&&a != (0:Int)||decide (a<(0:Int))) (.ret (.i (-1:Int)) []) (.ite (op==(1:Int)&&decide (a>(1099511627776:Int))||op==(2:Int)&&decide (a>(1048576:Int))||decide (op<(1:Int))||decide (op>(23:Int))) (.ret (.i (-1:Int)) []) (.ite (decide (op≤(6:Int))) (.ret (.i 0) []) (.ite (decide (op≤(10:Int))) (.ret (.i 1) []) (.ret (.i 2) []))))) fun Γ=>?_
 refine ⟨fun h=>?_,fun h=>⟨fun h1=>?_,fun h1=>⟨fun h2=>?_,fun h2=>⟨fun h3=>?_,fun h3=>?_⟩⟩⟩⟩
 all_goals
  refine ⟨?_,rfl⟩
  simp only [*,cond_true,cond_false]
def uA:Ent:=(197,fun
 | [.agg [.pd (.int .i64 op),.pd (.int .i64 a),.pd (.str s)]],[]=>some (none,.x (.c (.pd (.int .i64 (cu op a s)))),[])
 | _,_=>none)
theorem xm:EntOk Tryz.prog uA:=entOk fun vs ck=>by
 unfold uA; dsimp only; split
 · rename_i op a s; exact entS fun hp=>sL op a s
 · exact entN
def pZ:Cfg:=⟨bk,[uA]⟩
theorem mT:ah Tryz.prog pZ.tab:=(ah.cons xm ah.nil)
theorem rp:∀ (n k:Nat) (m:Int),33 - k≤n→k≤l.length→k≤32→0≤m→m≤k →
 J Tryz.prog 164 (aw Tryz.f164) Γ (Eq2 (.x (.b (!decide ((l.length:Int)>32)&&cb (l.drop k) m))) []) zFd1 ({ n:=34,fr:=[(0,.p (.lst .cell l)),(2,.p (.bool false)),(3,.i m),(4,.i k)],ck:=[],kn:=[2] }):=by
 intro n
 induction n with
 | zero=>intro k m h1 h2 h3; omega
 | succ n ih=>?_
 intro k m hn hk hk32 hm0 hm
 refine jg mT Tryz.func164 (let x1:=(Cell.name (ETy.get .cell l k)); let x2:=(Cell.op (ETy.get .cell l k)); let x3:=(Cell.a (ETy.get .cell l k)); .ite (decide ((k:Int)<(l.length:Int))) (.need (inRg k l.length) (.ite (decide (cu x2 x3 x1<(0:Int))||decide (m<cu x2 x3 x1)||decide ((k:Int)≥32)) (.ret (.p (.bool false)) []) (.stop zFd1 { n:=34,fr:=[(0,.p (.lst .cell l)),(2,.p (.bool false)),(3,.i (IntKind.wrap .i64 (IntKind.wrap .i64 (m - cu x2 x3 x1)+(1:Int)))),(4,.i (IntKind.wrap .i64 ((k:Int)+1)))],ck:=[],kn:=[2] }))) (.ret (.p (.bool (m==(1:Int)))) [])) ?_
 conv=>zeta
 refine ⟨fun hlt=>?_,fun hge=>⟨?_,rfl⟩⟩
 · have hk':k<l.length:=by have:=of_decide_eq_true hlt; omega
   refine ⟨⟨by omega,by omega⟩,?_⟩
   rw [bL (t:=.cell) hk']
   generalize ETy.get .cell l k=c
   refine ⟨fun h=>⟨?_,rfl⟩,fun h=>?_⟩
   · have h':(decide (a6 c<0)||decide (m<a6 c)||decide ((k:Int)≥32))=true:=h
     simp only [aO] at h'
     have e:(!decide ((l.length:Int)>32)&&cb (c::l.drop (k+1)) m)=false:=by
      rcases h' with h | h
      · have h':(decide (a6 c<0)||decide (a6 c>m))=true:=by
         rcases h with h | h
         · rw [h]; rfl
         · have:decide (a6 c>m)=true:=h
           rw [this,Bool.or_true]
        simp only [cb,h',cond_true,cO]
      · have:decide ((l.length:Int)>32)=true:=decide_eq_true (by have:=of_decide_eq_true h; omega)
        rw [this]; rfl
     rw [e]
   · have h':(decide (a6 c<0)||decide (m<a6 c)||decide ((k:Int)≥32))=false:=h
     simp only [ay] at h'
     have h1:=of_decide_eq_false h'.1.1
     have h2:=of_decide_eq_false h'.1.2
     have h3:=of_decide_eq_false h'.2
     show J Tryz.prog 164 (aw Tryz.f164) Γ _ zFd1 ({ n:=34,fr:=[(0,.p (.lst .cell l)),(2,.p (.bool false)),(3,.i (IntKind.wrap .i64 (IntKind.wrap .i64 (m - a6 c)+1))),(4,.i (IntKind.wrap .i64 ((k:Int)+1)))],ck:=[],kn:=[2] })
     have e1:IntKind.wrap IntKind.i64 (IntKind.wrap IntKind.i64 (m - a6 c)+1)=m+(1 - a6 c):=by
      rw [cr (n:=m - _) (by omega) (by omega),cr (by omega) (by omega)]; omega
     have e2:cb (c::l.drop (k+1)) m=cb (l.drop (k+1)) (m+(1 - a6 c)):=by
      have hb':(decide (a6 c<0)||decide (a6 c>m))=false:=by
       rw [ay]; exact ⟨decide_eq_false h1,decide_eq_false (by omega)⟩
      simp only [cb,hb',cond_false]
     rw [e1,e2,aZ (by omega)]
     exact ih (k+1) (m+(1 - a6 c)) (by omega) (by omega) (by omega) (by omega) (by omega)
 · have h2:=of_decide_eq_false hge
   rw [bY (by omega),cb,show decide ((l.length:Int)>32)=false from decide_eq_false (by omega)]; rfl
theorem qX:ag Tryz.prog 164 [.l .cell l] [] (.x (.b (dx l))) []:=by
 refine dg mT Tryz.func164 (.stop zFd1 { n:=34,fr:=[(0,.p (.lst .cell l)),(2,.p (.bool false)),(3,.i 0),(4,.i 0)],ck:=[],kn:=[2] }) fun Γ=>?_
 exact rp l Γ 33 0 0 (by omega) (by omega) (by omega) (by omega) (by omega)
def ld:Ent:=(164,fun
 | [.c (.pd (.lst .cell l))],[]=>some (none,.x (.c (.pd (.bool (dx l)))),[])
 | _,_=>none)
theorem qy:EntOk Tryz.prog ld:=entOk fun vs ck=>by
 unfold ld; dsimp only; split
 · rename_i l; exact entS fun hp=>qX l
 · exact entN
end Go.Proofs.YtcopfgbbjdefbaaGreatDoor

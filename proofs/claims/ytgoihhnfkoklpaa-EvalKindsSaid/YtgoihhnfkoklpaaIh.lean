/- Plain laws: what has a kind comes to a value of it; numbers' order, quotients. Conditions: each theorem's own. -/
import Derived.Test.YtgoihhnfkoklpaaIg
namespace Go.Proofs.Ytgoihhnfkoklpaa
open Go Go.Ev
set_option maxRecDepth 100000
/-- values of variables' kinds -/
def Fits (vs : List Var) (vals : List Val) : Prop := vs.length = vals.length ∧ (∀ v ∈ vals, vOk v = true) ∧ ∀ (i : Nat) (x : Var) (v : Val), vs[i]? = some x → vals[i]? = some v → v.kind = x.kind
/-- a value of a kind, or an error that a value of a kind may have -/
def KindVal (k : Int) (r : Val × Int) : Prop := (r.2 = 0 ∧ r.1.kind = k ∧ vOk r.1 = true) ∨ (r.1 = Val.zero ∧ (r.2 = 5 ∨ r.2 = 6 ∨ r.2 = 7))
theorem kv_truth (b : Bool) : KindVal 2 (truthV b, 0) := .inl ⟨rfl, rfl, truthV_ok b⟩
theorem kv_num {n : Int} (h : i64 n = true) : KindVal 1 (numV n, 0) := .inl ⟨rfl, rfl, numV_ok h⟩
theorem kv_numR {r : Int × Int} (h0 : r.2 = 0 → i64 r.1 = true) (h1 : r.2 = 0 ∨ r.2 = 6 ∨ r.2 = 7) : KindVal 1 (numR r) := by
  unfold numR
  by_cases h : r.2 = 0
  · rw [if_pos h]; exact kv_num (h0 h)
  · rw [if_neg h]; exact .inr ⟨rfl, by simp only; omega⟩
theorem okI_err (n : Int) : (okI n).2 = 0 ∨ (okI n).2 = 6 ∨ (okI n).2 = 7 := by
  unfold okI; cases i64 n <;> simp
theorem wholeM_err (op a b : Int) : (wholeM op a b).2 = 0 ∨ (wholeM op a b).2 = 6 ∨ (wholeM op a b).2 = 7 := by
  unfold wholeM
  repeat' split
  all_goals first
    | exact okI_err _
    | simp
theorem kv_pointR (a b : Int) : KindVal 3 (pointR a b) := by
  have h := pointR_ok (a := a) (b := b)
  unfold pointR at h ⊢
  cases hb : (pIn a && pIn b)
  · exact .inr ⟨rfl, .inl rfl⟩
  · rw [hb] at h; exact .inl ⟨rfl, rfl, h rfl⟩
theorem kv_un {op : Int} {u : Val} (h1 : 7 ≤ op) (h2 : op < 11) (hu : vOk u = true) (h : (unRef op u.kind).2 = 0) : KindVal (unRef op u.kind).1 (oneM op u) := by
  have hu' := vOk_iff.1 hu
  have ho : op = 7 ∨ op = 8 ∨ op = 9 ∨ op = 10 := by omega
  have hk := vR_kind hu'.1
  rcases hk with hk | hk | hk
  · rw [hk] at h ⊢
    rcases ho with rfl | rfl | rfl | rfl
    · show KindVal 1 _
      have : oneM 7 u = numR (okI (0 - u.a)) := by simp [oneM, hk]
      rw [this]; exact kv_numR okI_ok (okI_err _)
    all_goals (exact absurd h (by decide))
  · rw [hk] at h ⊢
    rcases ho with rfl | rfl | rfl | rfl
    · exact absurd h (by decide)
    · show KindVal 2 _
      have : oneM 8 u = (truthV (u.a == 0), 0) := by simp [oneM, hk]
      rw [this]; exact kv_truth _
    all_goals (exact absurd h (by decide))
  · have hp := vR_point hu'.1 hk
    rw [hk] at h ⊢
    rcases ho with rfl | rfl | rfl | rfl
    · show KindVal 3 _
      have : oneM 7 u = (⟨3, -u.a, -u.b⟩, 0) := by simp [oneM, hk]
      rw [this]
      exact .inl ⟨rfl, rfl, by simp [vOk, vR, pIn_neg hp.1, pIn_neg hp.2, pIn_i64 (pIn_neg hp.1)]⟩
    · exact absurd h (by decide)
    · show KindVal 1 _
      have : oneM 9 u = (numV u.a, 0) := by simp [oneM, hk]
      rw [this]; exact kv_num hu'.2
    · show KindVal 1 _
      have : oneM 10 u = (numV u.b, 0) := by simp [oneM, hk]
      rw [this]; exact kv_num (pIn_i64 hp.2)
theorem kv_bin {op : Int} {u v : Val} (h1 : 11 ≤ op) (h2 : op ≤ 23) (hu : vOk u = true) (hv : vOk v = true) (h : (binRef op u.kind v.kind).2 = 0) : KindVal (binRef op u.kind v.kind).1 (twoM op u v) := by
  have hu' := vOk_iff.1 hu
  have hv' := vOk_iff.1 hv
  have he : u.kind = v.kind := by
    cases hb : (u.kind != v.kind)
    · exact bne_eq_false_iff_eq.1 hb
    · rw [binRef, hb] at h; simp at h
  have ho : op = 11 ∨ op = 12 ∨ op = 13 ∨ op = 14 ∨ op = 15 ∨ op = 16 ∨ op = 17 ∨ op = 18 ∨ op = 19 ∨ op = 20 ∨ op = 21 ∨ op = 22 ∨ op = 23 := by omega
  have hk := vR_kind hu'.1
  have e16 : KindVal 2 (twoM 16 u v) := by
    have : twoM 16 u v = (truthV (u.a == v.a && u.b == v.b), 0) := by simp [twoM, he]
    rw [this]; exact kv_truth _
  have e17 : KindVal 2 (twoM 17 u v) := by
    have : twoM 17 u v = (truthV (!(u.a == v.a && u.b == v.b)), 0) := by simp [twoM, he]
    rw [this]; exact kv_truth _
  have hw : ∀ op, KindVal 1 (numR (wholeM op u.a v.a)) := fun op => kv_numR (wholeM_ok hu'.2) (wholeM_err op u.a v.a)
  rcases hk with hk | hk | hk
  · have hk2 : v.kind = 1 := by omega
    rw [hk, hk2] at h ⊢
    rcases ho with rfl | rfl | rfl | rfl | rfl | rfl | rfl | rfl | rfl | rfl | rfl | rfl | rfl
    all_goals first
      | exact absurd h (by decide)
      | exact e16
      | exact e17
      | (have e := hw 11; rw [show numR (wholeM 11 u.a v.a) = twoM 11 u v from by simp [twoM, hk, hk2]] at e; exact e)
      | (have e := hw 12; rw [show numR (wholeM 12 u.a v.a) = twoM 12 u v from by simp [twoM, hk, hk2]] at e; exact e)
      | (have e := hw 13; rw [show numR (wholeM 13 u.a v.a) = twoM 13 u v from by simp [twoM, hk, hk2]] at e; exact e)
      | (have e := hw 14; rw [show numR (wholeM 14 u.a v.a) = twoM 14 u v from by simp [twoM, hk, hk2]] at e; exact e)
      | (have e := hw 15; rw [show numR (wholeM 15 u.a v.a) = twoM 15 u v from by simp [twoM, hk, hk2]] at e; exact e)
      | (have e := kv_truth (decide (u.a < v.a)); rw [show (truthV (decide (u.a < v.a)), (0 : Int)) = twoM 18 u v from by simp [twoM, hk, hk2]] at e; exact e)
      | (have e := kv_truth (decide (u.a ≤ v.a)); rw [show (truthV (decide (u.a ≤ v.a)), (0 : Int)) = twoM 19 u v from by simp [twoM, hk, hk2]] at e; exact e)
      | (have e := kv_truth (decide (u.a > v.a)); rw [show (truthV (decide (u.a > v.a)), (0 : Int)) = twoM 20 u v from by simp [twoM, hk, hk2]] at e; exact e)
      | (have e := kv_truth (decide (u.a ≥ v.a)); rw [show (truthV (decide (u.a ≥ v.a)), (0 : Int)) = twoM 21 u v from by simp [twoM, hk, hk2]] at e; exact e)
  · have hk2 : v.kind = 2 := by omega
    rw [hk, hk2] at h ⊢
    rcases ho with rfl | rfl | rfl | rfl | rfl | rfl | rfl | rfl | rfl | rfl | rfl | rfl | rfl
    all_goals first
      | exact absurd h (by decide)
      | exact e16
      | exact e17
      | (have e := kv_truth (u.a == 1 && v.a == 1); rw [show (truthV (u.a == 1 && v.a == 1), (0 : Int)) = twoM 22 u v from by simp [twoM, hk, hk2]] at e; exact e)
      | (have e := kv_truth (u.a == 1 || v.a == 1); rw [show (truthV (u.a == 1 || v.a == 1), (0 : Int)) = twoM 23 u v from by simp [twoM, hk, hk2]] at e; exact e)
  · have hk2 : v.kind = 3 := by omega
    rw [hk, hk2] at h ⊢
    rcases ho with rfl | rfl | rfl | rfl | rfl | rfl | rfl | rfl | rfl | rfl | rfl | rfl | rfl
    all_goals first
      | exact absurd h (by decide)
      | exact e16
      | exact e17
      | (have e := kv_pointR (u.a + v.a) (u.b + v.b); rw [show pointR (u.a + v.a) (u.b + v.b) = twoM 11 u v from by simp [twoM, hk, hk2]] at e; exact e)
      | (have e := kv_pointR (u.a - v.a) (u.b - v.b); rw [show pointR (u.a - v.a) (u.b - v.b) = twoM 12 u v from by simp [twoM, hk, hk2]] at e; exact e)
      | (have e := kv_pointR (u.a * v.a - u.b * v.b) (u.a * v.b + u.b * v.a); rw [show pointR (u.a * v.a - u.b * v.b) (u.a * v.b + u.b * v.a) = twoM 13 u v from by simp [twoM, hk, hk2]] at e; exact e)
theorem kv_leaf {vs : List Var} {vals : List Val} (act ss : List Str) {c : Cell} (hc : wantsC c = 0) (hf : Fits vs vals) (h : (leafM c vs ss).2 = 0) : KindVal (leafM c vs ss).1 (evLeaf vs vals act c) := by
  have hok := evLeaf_ok act hc hf.1 hf.2.1
  have hw := wants_leaf c hc
  have h5 : c.op = 5 ∨ c.op ≠ 5 := by omega
  rcases h5 with h5 | h5
  · have e1 : leafM c vs ss = match findVar vs c.name with
        | none => (0, 2)
        | some v => bif decide (v.kind ≥ 1) && decide (v.kind ≤ 3) then (v.kind, 0) else (0, 8) := by
      unfold leafM; rw [h5]; rfl
    rw [e1] at h ⊢
    have e2 : evLeaf vs vals act c = if firstAt (fun v : Var => v.name == c.name) vs 0 < 0 then (Val.zero, 2) else (ETy.get .val vals (firstAt (fun v : Var => v.name == c.name) vs 0).toNat, 0) := by
      simp [evLeaf, h5]
    rw [e2] at hok ⊢
    rcases firstAt_find (fun v : Var => v.name == c.name) vs 0 with ⟨_, g2⟩ | ⟨k, x, g1, g2, g3⟩
    · rw [findVar, g2] at h; simp at h
    · simp only [Int.natCast_zero, Nat.zero_add] at g1
      have hk := (List.getElem?_eq_some_iff.1 g2).1
      have hk' : k < vals.length := by have := hf.1; omega
      rw [g1, if_neg (by omega), Int.toNat_natCast] at hok ⊢
      rw [findVar, g3] at h ⊢
      have hb : (decide (x.kind ≥ 1) && decide (x.kind ≤ 3)) = true := by
        cases hb : (decide (x.kind ≥ 1) && decide (x.kind ≤ 3))
        · simp only [hb, cond_false] at h; simp at h
        · rfl
      simp only [hb, cond_true]
      refine .inl ⟨rfl, ?_, hok rfl⟩
      rw [ETy.get_eq (t := .val) (List.getElem?_eq_getElem hk')]
      exact hf.2.2 k x _ g2 (List.getElem?_eq_getElem hk')
  · by_cases h1 : c.op = 1
    · have e1 : leafM c vs ss = (1, 0) := by unfold leafM; rw [h1]; rfl
      have e2 : evLeaf vs vals act c = (numV c.a, 0) := by simp [evLeaf, h1]
      rw [e2] at hok
      rw [e1, e2]; exact .inl ⟨rfl, rfl, hok rfl⟩
    by_cases h2 : c.op = 2
    · have e1 : leafM c vs ss = (3, 0) := by unfold leafM; rw [h2]; rfl
      have e2 : evLeaf vs vals act c = (⟨3, 0, c.a⟩, 0) := by simp [evLeaf, h2]
      rw [e2] at hok
      rw [e1, e2]; exact .inl ⟨rfl, rfl, hok rfl⟩
    by_cases h6 : c.op = 6
    · have e1 : leafM c vs ss = bif !ss.any (fun s => s == c.name) then (0, 2) else (2, 0) := by unfold leafM; rw [h6]; rfl
      rw [e1] at h ⊢
      have e2 : evLeaf vs vals act c = (truthV (act.any fun x => c.name == x), 0) := by simp [evLeaf, h6]
      cases hb : (!ss.any (fun s => s == c.name))
      · rw [e2]; exact kv_truth _
      · rw [hb] at h; simp at h
    · have h3 : c.op = 3 ∨ c.op = 4 := by omega
      have e1 : leafM c vs ss = (2, 0) := by
        unfold leafM
        rcases h3 with h3 | h3 <;> rw [h3] <;> rfl
      have e2 : evLeaf vs vals act c = (truthV (c.op == 3), 0) := by simp [evLeaf, h1, h2, h3]
      rw [e1, e2]; exact kv_truth _
theorem kv_tm {vs : List Var} {vals : List Val} (act ss : List Str) (hf : Fits vs vals) : ∀ t : Tm, t.ok → (t.kind vs ss).2 = 0 → KindVal (t.kind vs ss).1 (t.val vs vals act)
  | .leaf c, hc, h => kv_leaf act ss hc hf h
  | .un c t, ⟨hw, ht⟩, h => by
    have ih := kv_tm act ss hf t ht
    have hop := wants_cases c (by omega)
    have hone := t.kind_one vs ss
    simp only [Tm.kind, Tm.val] at h ⊢
    generalize t.kind vs ss = kf at *
    generalize t.val vs vals act = r at *
    obtain ⟨k, e⟩ := kf
    cases hb : (e != 0)
    · have h0 : e = 0 := by simpa using hb
      simp only [hb, cond_false] at h ⊢
      have hk := hone.1 h0
      rw [← un_ref c.op k (by omega) (by omega) hk.1 hk.2] at h ⊢
      rcases ih h0 with ⟨q1, q2, q3⟩ | ⟨q1, q2⟩
      · rw [if_neg (by simpa using q1)]
        have q2 : r.1.kind = k := q2
        rw [← q2] at h ⊢
        exact kv_un (by omega) (by omega) q3 h
      · rw [if_pos (by omega)]; exact .inr ⟨rfl, q2⟩
    · simp only [hb, cond_true] at h; simp only [h] at hb; simp at hb
  | .bin c t u, ⟨hw, ht, hu⟩, h => by
    have ih := kv_tm act ss hf t ht
    have ih2 := kv_tm act ss hf u hu
    have hop := wants_cases c (by omega)
    have hmax : c.op ≤ 23 := by
      have h' : 0 ≤ wantsC c := by omega
      unfold wantsC wantsM at h'
      simp only [cond_eq_ite] at h'
      repeat' split at h'
      all_goals simp_all
      all_goals omega
    have hone := t.kind_one vs ss
    have hone2 := u.kind_one vs ss
    simp only [Tm.kind, Tm.val] at h ⊢
    generalize t.kind vs ss = kf at *
    generalize u.kind vs ss = kg at *
    generalize t.val vs vals act = r at *
    generalize u.val vs vals act = r2 at *
    obtain ⟨k, e⟩ := kf
    obtain ⟨k2, e2⟩ := kg
    cases hb : (e != 0)
    · have h0 : e = 0 := by simpa using hb
      cases hb2 : (e2 != 0)
      · have h02 : e2 = 0 := by simpa using hb2
        simp only [hb, hb2, cond_false] at h ⊢
        have hk := hone.1 h0
        have hk2 := hone2.1 h02
        rw [← bin_ref c.op k k2 (by omega) hmax hk.1 hk.2 hk2.1 hk2.2] at h ⊢
        rcases ih h0 with ⟨q1, q2, q3⟩ | ⟨q1, q2⟩
        · rw [if_neg (by simpa using q1)]
          rcases ih2 h02 with ⟨p1, p2, p3⟩ | ⟨p1, p2⟩
          · rw [if_neg (by simpa using p1)]
            have q2 : r.1.kind = k := q2
            have p2 : r2.1.kind = k2 := p2
            rw [← q2, ← p2] at h ⊢
            exact kv_bin (by omega) hmax q3 p3 h
          · rw [if_pos (by omega)]; exact .inr ⟨rfl, p2⟩
        · rw [if_pos (by omega)]; exact .inr ⟨rfl, q2⟩
      · simp only [hb, hb2, cond_true, cond_false] at h; simp only [h] at hb2; simp at hb2
    · simp only [hb, cond_true] at h; simp only [h] at hb; simp at hb
theorem leaf_errs (vs : List Var) (ss : List Str) (c : Cell) : (leafM c vs ss).2 = 0 ∨ (leafM c vs ss).2 = 2 ∨ (leafM c vs ss).2 = 8 := by
  unfold leafM
  cases c.op == 1
  · cases c.op == 2
    · cases c.op == 5
      · cases c.op == 6
        · simp
        · cases !(ss.any fun s => s == c.name) <;> simp
      · show (match findVar vs c.name with
          | none => (0, 2)
          | some v => bif decide (v.kind ≥ 1) && decide (v.kind ≤ 3) then (v.kind, 0) else ((0 : Int), (8 : Int))).2 = 0 ∨ _ ∨ _
        cases findVar vs c.name with
        | none => simp
        | some v => cases hk : (decide (v.kind ≥ 1) && decide (v.kind ≤ 3)) <;> simp [hk]
    · simp
  · simp
theorem orErr_errs (k : Int) : (orErr k).2 = 0 ∨ (orErr k).2 = 2 ∨ (orErr k).2 = 8 := by
  unfold orErr; cases k == 0 <;> simp
theorem Tm.kind_errs (vs : List Var) (ss : List Str) : ∀ t : Tm, (t.kind vs ss).2 = 0 ∨ (t.kind vs ss).2 = 2 ∨ (t.kind vs ss).2 = 8
  | .leaf c => leaf_errs vs ss c
  | .un c t => by
    have ih := t.kind_errs vs ss
    simp only [Tm.kind]
    cases ((t.kind vs ss).2 != 0)
    · exact orErr_errs _
    · exact ih
  | .bin c t u => by
    have ih := t.kind_errs vs ss
    have ih2 := u.kind_errs vs ss
    simp only [Tm.kind]
    cases ((t.kind vs ss).2 != 0)
    · cases ((u.kind vs ss).2 != 0)
      · exact orErr_errs _
      · exact ih2
    · exact ih
/-- A name that is not there is missed, unless something else fails ahead of it. -/
theorem val_unnamed {vs : List Var} {ss : List Str} (vals : List Val) (act : List Str) : ∀ t : Tm, t.ok → (∀ c ∈ t.flat, c.op ≠ 6) → (t.kind vs ss).2 = 2 → (t.val vs vals act).2 ≠ 0
  | .leaf c, hc, h6, h => by
    have h6 := h6 c (by simp [Tm.flat])
    have hw := wants_leaf c hc
    simp only [Tm.kind, Tm.val] at h ⊢
    have h5 : c.op = 5 := by
      by_cases h1 : c.op = 1
      · rw [show leafM c vs ss = (1, 0) from by unfold leafM; rw [h1]; rfl] at h; simp at h
      by_cases h2 : c.op = 2
      · rw [show leafM c vs ss = (3, 0) from by unfold leafM; rw [h2]; rfl] at h; simp at h
      by_cases h3 : c.op = 3 ∨ c.op = 4
      · rw [show leafM c vs ss = (2, 0) from by unfold leafM; rcases h3 with h3 | h3 <;> rw [h3] <;> rfl] at h; simp at h
      omega
    have e1 : leafM c vs ss = match findVar vs c.name with
        | none => (0, 2)
        | some v => bif decide (v.kind ≥ 1) && decide (v.kind ≤ 3) then (v.kind, 0) else (0, 8) := by
      unfold leafM; rw [h5]; rfl
    rw [e1] at h
    rcases firstAt_find (fun v : Var => v.name == c.name) vs 0 with ⟨g1, g2⟩ | ⟨k, x, g1, g2, g3⟩
    · simp only [Int.natCast_zero] at g1
      simp [evLeaf, h5, g1]
    · rw [findVar, g3] at h
      cases hb : (decide (x.kind ≥ 1) && decide (x.kind ≤ 3)) <;> simp [hb] at h
  | .un c t, ⟨hw, ht⟩, h6, h => by
    have ih := val_unnamed (vs := vs) (ss := ss) vals act t ht (fun x hx => h6 x (by simp [Tm.flat, hx]))
    simp only [Tm.kind, Tm.val] at h ⊢
    generalize t.kind vs ss = kf at *
    obtain ⟨k, e⟩ := kf
    cases hb : (e != 0)
    · simp only [hb, cond_false] at h
      unfold unK orErr at h
      cases hm : (madeM c.op k 0 == 0) <;> simp [hm] at h
    · simp only [hb, cond_true] at h
      have := ih h
      rw [if_pos this]; exact this
  | .bin c t u, ⟨hw, ht, hu⟩, h6, h => by
    have ih := val_unnamed (vs := vs) (ss := ss) vals act t ht (fun x hx => h6 x (by simp [Tm.flat, hx]))
    have ih2 := val_unnamed (vs := vs) (ss := ss) vals act u hu (fun x hx => h6 x (by simp [Tm.flat, hx]))
    simp only [Tm.kind, Tm.val] at h ⊢
    generalize t.kind vs ss = kf at *
    generalize u.kind vs ss = kg at *
    obtain ⟨k, e⟩ := kf
    obtain ⟨k2, e2⟩ := kg
    by_cases ha : (t.val vs vals act).2 ≠ 0
    · rw [if_pos ha]; exact ha
    · rw [if_neg ha]
      cases hb : (e != 0)
      · cases hb2 : (e2 != 0)
        · simp only [hb, hb2, cond_false] at h
          unfold binK orErr at h
          cases hm : (madeM c.op k k2 == 0) <;> simp [hm] at h
        · simp only [hb, hb2, cond_true, cond_false] at h
          have := ih2 h
          rw [if_pos this]; exact this
      · simp only [hb, cond_true] at h
        exact absurd (ih h) ha
/-- The law on kinds and values. -/
theorem kinds_law (l : List Cell) {vs : List Var} {vals : List Val} (act : List Str) (hf : Fits vs vals) :
    ((kindsM l vs ((l.filter fun c => c.op == 6).map (·.name))).2 ≠ 0 → (evalM l vs vals act).2 ≠ 0 ∨ 0 < ((l.filter fun c => c.op == 6).map (·.name)).length ∨ (kindsM l vs ((l.filter fun c => c.op == 6).map (·.name))).2 = 8) ∧
    ((kindsM l vs ((l.filter fun c => c.op == 6).map (·.name))).2 = 0 → KindVal (kindsM l vs ((l.filter fun c => c.op == 6).map (·.name))).1 (evalM l vs vals act)) := by
  have hb : worldBad vs vals = false := by
    simp only [worldBad, Bool.or_eq_false_iff, bne_eq_false_iff_eq, List.any_eq_false, Bool.not_eq_true', Bool.not_eq_false]
    exact ⟨by have := hf.1; omega, fun v hv => (vOk_iff.1 (hf.2.1 v hv)).1⟩
  cases hr : rightM l
  · have e1 : evalM l vs vals act = (Val.zero, 1) := by simp [evalM, hr]
    have e2 : kindsM l vs ((l.filter fun c => c.op == 6).map (·.name)) = (0, 1) := by simp [kindsM, hr]
    rw [e1, e2]
    exact ⟨fun _ => .inl (by simp), fun h => absurd h (by simp)⟩
  · obtain ⟨h32, t, ht, rfl⟩ := right_tm hr
    rw [eval_flat vs vals act ht h32 hb, kinds_flat vs _ ht h32]
    refine ⟨fun h => ?_, fun h => kv_tm act _ hf t ht h⟩
    rcases t.kind_errs vs ((t.flat.filter fun c => c.op == 6).map (·.name)) with q | q | q
    · exact absurd q h
    · by_cases hn : 0 < ((t.flat.filter fun c => c.op == 6).map (·.name)).length
      · exact .inr (.inl hn)
      · refine .inl (val_unnamed vals act t ht (fun c hc h6 => hn ?_) q)
        rw [List.length_map, List.length_pos_iff_exists_mem]
        exact ⟨c, List.mem_filter.2 ⟨hc, by simpa using h6⟩⟩
    · exact .inr (.inr q)
/-! ### order, quotients -/
theorem wrap_wrap_add (p m : Int) : IntKind.i64.wrap (IntKind.i64.wrap p + m) = IntKind.i64.wrap (p + m) := by
  rw [wrap_i64_eq, wrap_i64_eq, wrap_i64_eq]; omega
theorem order_one (x y : Int) : IntKind.i64.wrap (IntKind.i64.wrap (IntKind.i64.wrap (0 + (truthV (decide (x < y))).a) + (truthV (x == y)).a) + (truthV (decide (x > y))).a) = 1 := by
  rcases Int.lt_trichotomy x y with h | h | h
  · have h2 : (x == y) = false := by simp; omega
    have h3 : decide (x > y) = false := decide_eq_false (by omega)
    rw [decide_eq_true h, h2, h3]; decide
  · have h1 : decide (x < y) = false := decide_eq_false (by omega)
    have h2 : (x == y) = true := by simp; omega
    have h3 : decide (x > y) = false := decide_eq_false (by omega)
    rw [h1, h2, h3]; decide
  · have h1 : decide (x < y) = false := decide_eq_false (by omega)
    have h2 : (x == y) = false := by simp; omega
    rw [h1, h2, decide_eq_true h]; decide
theorem order_two (x y : Int) : IntKind.i64.wrap ((truthV (decide (x ≤ y))).a + (truthV (decide (x > y))).a) = 1 := by
  by_cases h : x ≤ y
  · rw [decide_eq_true h, decide_eq_false (by omega)]; decide
  · rw [decide_eq_false h, decide_eq_true (by omega)]; decide
theorem num_err (r : Int × Int) : (numR r).2 = r.2 := by
  unfold numR
  by_cases h : r.2 = 0
  · rw [if_pos h, h]
  · rw [if_neg h]
theorem quot_zero (x y : Int) : (((wholeM 14 x y).2 == 6) = (y == 0)) ∧ (((wholeM 15 x y).2 == 6) = (y == 0)) := by
  by_cases h : y = 0
  · simp [wholeM, h]
  · have hb : (y == 0) = false := by simpa using h
    rw [hb]
    have := okI_own (x.tdiv y)
    constructor
    · simp only [wholeM]
      simp [h]
      unfold okI; cases i64 (x.tdiv y) <;> simp
    · simp [wholeM, h]
theorem quot_back {x y : Int} (hx : i64 x = true) (hg : (wholeM 14 x y).2 = 0) (hh : (wholeM 15 x y).2 = 0) :
    IntKind.i64.wrap (IntKind.i64.wrap ((wholeM 14 x y).1 * y) + (wholeM 15 x y).1) = x ∧ ((wholeM 15 x y).1 = 0 ∨ (decide ((wholeM 15 x y).1 < 0) = decide (x < 0))) := by
  have hy : y ≠ 0 := by
    intro h
    have := (quot_zero x y).1
    rw [hg, h] at this; simp at this
  have e15 : wholeM 15 x y = (x.tmod y, 0) := by simp [wholeM, hy]
  have e14 : wholeM 14 x y = okI (x.tdiv y) := by simp [wholeM, hy]
  rw [e14] at hg
  have ei : okI (x.tdiv y) = (x.tdiv y, 0) := by
    cases h : i64 (x.tdiv y)
    · rw [okI_false h] at hg; simp at hg
    · exact okI_true h
  rw [e15, e14, ei]
  simp only
  constructor
  · rw [wrap_wrap_add, Int.mul_comm, Int.mul_tdiv_add_tmod, wrap_i64 hx]
  · by_cases h0 : x.tmod y = 0
    · exact .inl h0
    · right
      by_cases hx0 : x < 0
      · have h1 : 0 ≤ (-x).tmod y := Int.tmod_nonneg _ (by omega)
        rw [Int.neg_tmod] at h1
        rw [decide_eq_true hx0, decide_eq_true (by omega)]
      · have h1 : 0 ≤ x.tmod y := Int.tmod_nonneg _ (by omega)
        rw [decide_eq_false hx0, decide_eq_false (by omega)]
end Go.Proofs.Ytgoihhnfkoklpaa

/- An executor for function bodies of the model, part Hb: slices that the call owns: cut short, appended to. Conditions: each operation's own, told as a proposition. -/
import Derived.Test.YtgoihhnfkoklpaaEngH
namespace Go.Sy
open Go.RowKit

def killCk : Option Nat → List Chunk → List Chunk
  | some i, ck => ck.set i .dead
  | none, ck => ck

section
variable {P : Program} {w0 : World} {H : Nat → Option Obj} {st : ST} {σ : Nat → Nat} {ov : Nat → Value} {a : Act} {w : World}

/-- A slice of the call's own gives way to another one: in the same block, or in a new one. k: the chunk that goes (none: there was none). -/
theorem Rel.regrow (r : Rel P w0 H st σ ov a w) (hwf : st.wf = true) (k : Option Nat) {e : TypeId} {size n : Nat} {xs : List Value} {v' : Value} {w' : World} {row : Option Nat}
    (hrow : ∀ b, row = some b → ∃ i c, k = some i ∧ st.ck[i]? = some c ∧ c.blk σ ov i = some b)
    (hg : w.grownBy w' row) (hown : w'.ownsRow w0.heap.size e size v' n xs) (hv : ∀ b, v'.ownBlock = some b → row = some b ∨ w.heap.size ≤ b) :
    ∃ σ' ov', Agree st.ck.length σ ov σ' ov' ∧ ov' st.ck.length = v' ∧
      Rel P w0 H { st with ck := killCk k st.ck ++ [.own e size n xs] } σ' ov' a w' := by
  let σ' : Nat → Nat := fun i => if i = st.ck.length then (v'.ownBlock.getD 0) else σ i
  let ov' : Nat → Value := fun i => if i = st.ck.length then v' else ov i
  have hag : Agree st.ck.length σ ov σ' ov' := fun i hi => ⟨if_neg (by omega), if_neg (by omega)⟩
  have e1 : σ' st.ck.length = v'.ownBlock.getD 0 := if_pos rfl
  have e2 : ov' st.ck.length = v' := if_pos rfl
  have r' := r.agree hwf hag
  let ck1 := killCk k st.ck
  have hlen : ck1.length = st.ck.length := by show (killCk k st.ck).length = _; cases k <;> simp [killCk]
  have hck1 : ∀ (i : Nat) c, ck1[i]? = some c → c = .dead ∨ (st.ck[i]? = some c ∧ k ≠ some i) := by
    intro i c hc
    cases hk : k with
    | none =>
      have : ck1 = st.ck := by show killCk k st.ck = _; rw [hk]; rfl
      rw [this] at hc; exact .inr ⟨hc, by simp⟩
    | some j =>
      have : ck1 = st.ck.set j .dead := by show killCk k st.ck = _; rw [hk]; rfl
      rw [this] at hc
      by_cases hij : i = j
      · subst hij
        have hi : i < st.ck.length := by have := (List.getElem?_eq_some_iff.1 hc).1; simpa using this
        rw [List.getElem?_set_self hi] at hc
        exact .inl (by simpa using hc.symm)
      · rw [List.getElem?_set_ne (Ne.symm hij)] at hc
        exact .inr ⟨hc, by simp [Ne.symm hij]⟩
  have hrow' : ∀ b, row = some b → w0.heap.size ≤ b ∧ H b = none ∧ b < w.heap.size ∧ ∀ (i : Nat) c, st.ck[i]? = some c → k ≠ some i → c.blk σ' ov' i ≠ some b := by
    intro b hb
    obtain ⟨i, c, hk, hc, hcb⟩ := hrow b hb
    have hi : i < st.ck.length := (List.getElem?_eq_some_iff.1 hc).1
    have hb' := r.base i c b hc hcb
    refine ⟨hb'.1, hb'.2, Chunk.blk_lt (r.own i c hc) hcb, fun j d hd hkj hdb => ?_⟩
    have hj : j < st.ck.length := (List.getElem?_eq_some_iff.1 hd).1
    rw [Chunk.blk_agree hag hj] at hdb
    have := r.inj i j c d b hc hd hcb hdb
    subst this
    exact hkj hk
  have hold : ∀ b, b < w.heap.size → row ≠ some b → w'.heap[b]? = w.heap[b]? := fun b hb hne => hg.block b hb (fun e => hne e.symm)
  have hget : ∀ (i : Nat) d, (ck1 ++ [Chunk.own e size n xs])[i]? = some d → (i < st.ck.length ∧ ck1[i]? = some d) ∨ (i = st.ck.length ∧ d = Chunk.own e size n xs) := by
    intro i d hd
    rcases Nat.lt_trichotomy i ck1.length with hi | hi | hi
    · rw [List.getElem?_append_left hi] at hd; exact .inl ⟨by omega, hd⟩
    · subst hi; simp at hd; exact .inr ⟨hlen, hd.symm⟩
    · rw [List.getElem?_eq_none (by simp; omega)] at hd; cases hd
  have hnewblk : ∀ b, (Chunk.own e size n xs).blk σ' ov' st.ck.length = some b → v'.ownBlock = some b := by
    intro b hb; simp only [Chunk.blk, e2] at hb; exact hb
  have hB : w0.heap.size ≤ w.heap.size := r.ext.size
  refine ⟨σ', ov', hag, e2, { size := r.size, defers := r.defers, slots := r'.slots, ext := ?_, imm := ?_, own := ?_, base := ?_, inj := ?_ }⟩
  · exact r.ext.grown hg hB fun b hb => (hrow' b hb).1
  · intro b x hb
    have := r.imm b x hb
    rw [hold b (Array.getElem?_eq_some_iff.1 this).1 (fun he => by rw [(hrow' b he).2.1] at hb; cases hb)]; exact this
  · intro i d hd
    rcases hget i d hd with ⟨hi, hd⟩ | ⟨rfl, rfl⟩
    · rcases hck1 i d hd with rfl | ⟨hd, hk⟩
      · trivial
      · exact Chunk.holds_kept (r'.own i d hd) fun b hb => hold b (Chunk.blk_lt (r'.own i d hd) hb) (fun he => (hrow' b he).2.2.2 i d hd hk hb)
    · refine ⟨by rw [e2]; exact hown, fun b hb => ?_⟩
      rw [e2] at hb
      rw [e1, hb]; rfl
  · intro i d b hd hb
    rcases hget i d hd with ⟨hi, hd⟩ | ⟨rfl, rfl⟩
    · rcases hck1 i d hd with rfl | ⟨hd, hk⟩
      · simp [Chunk.blk] at hb
      · exact r'.base i d b hd hb
    · rcases hv b (hnewblk b hb) with h | h
      · exact ⟨(hrow' b h).1, (hrow' b h).2.1⟩
      · refine ⟨by omega, ?_⟩
        cases hH : H b with
        | none => rfl
        | some x => have := (Array.getElem?_eq_some_iff.1 (r.imm _ _ hH)).1; omega
  · intro i j d d' b hd hd' hb1 hb2
    rcases hget i d hd with ⟨hi, hd1⟩ | ⟨hi, hd1⟩ <;> rcases hget j d' hd' with ⟨hj, hd2⟩ | ⟨hj, hd2⟩
    · rcases hck1 i d hd1 with rfl | ⟨hd1, hk1⟩
      · simp [Chunk.blk] at hb1
      · rcases hck1 j d' hd2 with rfl | ⟨hd2, hk2⟩
        · simp [Chunk.blk] at hb2
        · exact r'.inj i j d d' b hd1 hd2 hb1 hb2
    · subst hj; subst hd2
      rcases hck1 i d hd1 with rfl | ⟨hd1, hk1⟩
      · simp [Chunk.blk] at hb1
      · rcases hv b (hnewblk b hb2) with h | h
        · exact absurd hb1 ((hrow' b h).2.2.2 i d hd1 hk1)
        · have := Chunk.blk_lt (r'.own i d hd1) hb1; omega
    · subst hi; subst hd1
      rcases hck1 j d' hd2 with rfl | ⟨hd2, hk2⟩
      · simp [Chunk.blk] at hb2
      · rcases hv b (hnewblk b hb1) with h | h
        · exact absurd hb2 ((hrow' b h).2.2.2 j d' hd2 hk2)
        · have := Chunk.blk_lt (r'.own j d' hd2) hb2; omega
    · rw [hi, hj]

/-- append to a slice of the call's own, with where the result lies. -/
theorem append_where {t ty e : TypeId} {i : TypeInfo} {z : Value} {base size : Nat} (ht : P.underlying t = some (.slice e)) (hi : P.info? e = some i) (hz : i.zero = some z)
    (hsize : i.size = size) (hzs : z.cells.size = size) (hsz : 0 < size) {v : Value} {n : Nat} {xs : List Value} (hown : w.ownsRow base e size v n xs)
    {ao : Option Addr} {m c : Nat} {news : List Value} (hl : news.length = m * size) (hnone : ao = none → m = 0 ∧ c = 0) (hnews : ∀ ad, ao = some ad → ∀ j u, news[j]? = some u → w.cell? (ad.add j) = some u)
    (h1 : ∀ u ∈ news, u.oneCell' = true) (h63 : n + m ≤ maxLen) (hbytes : (n + m) * i.bytes ≤ 140737488355328) (hbase : base ≤ w.heap.size) :
    ∃ v' w', (Builtin.append_ #[t, t] ty #[v, .slice ao m c]).run P w = .ok v' w' ∧ w'.ownsRow base e size v' (n + m) (xs ++ news) ∧ w.grownBy w' v.ownBlock ∧ ∀ b, v'.ownBlock = some b → v.ownBlock = some b ∨ w.heap.size ≤ b := by
  cases ao with
  | none =>
    obtain ⟨rfl, rfl⟩ := hnone rfl
    have hn : news = [] := List.eq_nil_of_length_eq_zero (by simpa using hl)
    subst hn
    refine ⟨v, w, ?_, by simpa using hown, World.grownBy.refl _ _, fun b hb => .inl hb⟩
    exact run_append_owned_none (P := P) w base t ty e i size ht hi v n xs hown
  | some ad =>
    obtain ⟨v', w', hr, ho, hg, _⟩ := run_append_own (P := P) w base t ty e i z size i.bytes ht hi hz hsize rfl hzs hsz v n xs hown ad m c news hl (hnews ad rfl) h1 h63 hbytes hbase
    refine ⟨v', w', hr, ho, hg, ?_⟩
    rcases hown.2 with ⟨rfl, rfl⟩ | ⟨g, cap, cur, rfl, hbg, hgg, hnc, hcm, hcs, htake⟩
    · have hx : xs = [] := List.eq_nil_of_length_eq_zero (by simpa using hown.1)
      subst hx
      obtain ⟨v2, w2, hr2, ho2, _, _⟩ := run_append_own (P := P) w w.heap.size t ty e i z size i.bytes ht hi hz hsize rfl hzs hsz _ 0 [] (World.ownsRow_nil _ _ _ _) ad m c news hl (hnews ad rfl) h1 h63 hbytes (Nat.le_refl _)
      rw [hr] at hr2
      simp only [Result.ok.injEq] at hr2
      obtain ⟨rfl, rfl⟩ := hr2
      intro b hb
      exact .inr (ho2.lt b hb).1
    · by_cases hroom : n + m ≤ cap
      · obtain ⟨w2, hr2, _, _⟩ := run_append_fits (P := P) w base t ty e i size ht hi hsize g n cap xs hown ad m c news hl (hnews ad rfl) h1 hroom
        rw [hr] at hr2
        simp only [Result.ok.injEq] at hr2
        obtain ⟨rfl, rfl⟩ := hr2
        intro b hb
        exact .inl hb
      · have h64 : ((n + m : Nat) : Int) ≤ 9223372036854775807 := by unfold maxLen at h63; omega
        have hr2 := run_append_grow (P := P) w t ty e i z ht hi hz ⟨g, 0, none⟩ n cap xs (by rw [hsize]; exact hown.1) (hown.cells (g := g) rfl) ad m c news (by rw [hsize]; exact hl) (hnews ad rfl) (by omega) h64 (growslice_fits (by omega) hbytes)
        rw [hr] at hr2
        simp only [Result.ok.injEq] at hr2
        obtain ⟨rfl, rfl⟩ := hr2
        intro b hb
        simp only [Value.ownBlock, Option.some.injEq] at hb
        exact .inr (by omega)

/-- Slices of the call's own: 's[:m]'; append of a slice of the call's own to one, or to nil. -/
def opX (P : Program) (st : ST) : Op → Option (Option Prop × SV × List Chunk)
  | .slice t x none (some h) none => match evalO st none x, P.underlying t, intOf? (evalO st none h) with
    | some (.c (.own k)), some (.slice e0), some m => match st.ck[k]?, szOf P e0 with
      | some (.own e sz n xs), some _ => bif st.wf then some (some (0 ≤ m ∧ m ≤ n), .c (.own st.ck.length), killCk (some k) st.ck ++ [.own e sz m.toNat (xs.take (m.toNat * sz))]) else none
      | _, _ => none
    | _, _, _ => none
  | .call { callee := .builtin .append, args := args, argTypes := ts } =>
    match args.toList, ts.toList with
    | [x, y], [t, t'] => match evalO st none x, evalO st none y, P.underlying t with
      | some (.c sx), some (.c (.own j)), some (.slice e) => match st.ck[j]?, P.info? e with
        | some (.own ej sj m ys), some i => match i.zero with
          | some z =>
            bif Nat.beq t t' && st.wf && Nat.beq ej e && Nat.beq sj i.size && Nat.beq z.cells.toList.length i.size && Nat.blt 0 i.size then
              match sx with
              | .own k => match st.ck[k]? with
                | some (.own ek sk n xs) => bif Nat.beq ek e && Nat.beq sk i.size && !Nat.beq k j then
                    some (some ((∀ u ∈ ys, u.oneCell' = true) ∧ n + m ≤ maxLen ∧ (n + m) * i.bytes ≤ 140737488355328), .c (.own st.ck.length), killCk (some k) st.ck ++ [.own e i.size (n + m) (xs ++ ys)]) else none
                | _ => none
              | .val (.slice none 0 0) => some (some ((∀ u ∈ ys, u.oneCell' = true) ∧ m ≤ maxLen ∧ m * i.bytes ≤ 140737488355328), .c (.own st.ck.length), killCk none st.ck ++ [.own e i.size m ys])
              | _ => none
            else none
          | none => none
        | _, _ => none
      | _, _, _ => none
    | _, _ => none
  | _ => none

theorem own_source {j e size m : Nat} {ys : List Value} (r : Rel P w0 H st σ ov a w) (hck : st.ck[j]? = some (.own e size m ys)) :
    ∃ ao c, ov j = .slice ao m c ∧ (ao = none → m = 0 ∧ c = 0) ∧ ∀ ad, ao = some ad → ∀ l u, ys[l]? = some u → w.cell? (ad.add l) = some u := by
  have h := (r.own j _ hck).1
  rcases h.2 with ⟨h1, rfl⟩ | ⟨g, cap, cur, h1, h2⟩
  · exact ⟨none, 0, h1, fun _ => ⟨rfl, rfl⟩, fun _ h => by cases h⟩
  · refine ⟨some ⟨g, 0, none⟩, cap, h1, (fun h => by cases h), fun ad had l u hu => ?_⟩
    simp only [Option.some.injEq] at had
    subst had
    exact h.cells (g := g) (by rw [h1]; rfl) l u hu
theorem run_append_call {x y : Operand} {t : TypeId} {dst : Option Tmp} {ty : TypeId} {pos : String} {after : Array Edge} {guard : Option (Nat × Bool)} {vx vy v' : Value} {w' : World}
    (ex : a.eval x = vx) (ey : a.eval y = vy) (hr : (Builtin.append_ #[t, t] ty #[vx, vy]).run P w = .ok v' w') :
    (execOp a.eval ⟨dst, .call { callee := .builtin .append, args := #[x, y], argTypes := #[t, t] }, ty, pos, after, guard⟩).run P w = .ok (.value v') w' := by
  simp only [execOp, resolve, Sem.run_bind, run_pure', Result.andThen_ok, invoke, builtin, List.map_toArray, List.map_cons, List.map_nil, ex, ey, hr]
set_option maxHeartbeats 400000 in
theorem opX_sound (r : Rel P w0 H st σ ov a w) {o : Oper} {p : Option Prop} {sv : SV} {ck' : List Chunk} (h : opX P st o.op = some (p, sv, ck')) (hp : Holds p) :
    ∃ w' σ' ov', (execOp a.eval o).run P w = .ok (.value (sv.den σ' ov')) w' ∧ (∀ s b v, sv ≠ .grd s b v) ∧ Rel P w0 H { st with ck := ck' } σ' ov' a w' := by
  obtain ⟨dst, op, ty, pos, after, guard⟩ := o
  simp only at h
  unfold opX at h
  split at h
  · rename_i t x hi
    split at h
    · rename_i k e0 m hx hu hm
      split at h
      · rename_i e sz n xs sz0 hck hsz0
        cases hwf : st.wf
        · rw [hwf] at h; simp at h
        · rw [hwf] at h
          simp only [cond_true, Option.some.injEq, Prod.mk.injEq] at h
          obtain ⟨rfl, rfl, rfl⟩ := h
          simp only [Holds] at hp
          have e1 : a.eval x = ov k := (evalO_sound r (g := none) trivial hx).1
          obtain ⟨kk, e2⟩ := intOf_sound r (g := none) trivial hm
          have hown := (r.own k _ hck).1
          have hle : m.toNat ≤ n := by omega
          have hlen := hown.1
          obtain ⟨ao, cp, e3, hcap, hrow⟩ : ∃ ao cp, ov k = .slice ao n cp ∧ n ≤ cp ∧ w.ownsRow w0.heap.size e sz (.slice ao m.toNat cp) m.toNat (xs.take (m.toNat * sz)) := by
            have hl : (xs.take (m.toNat * sz)).length = m.toNat * sz := by
              rw [List.length_take, hlen]; exact Nat.min_eq_left (Nat.mul_le_mul_right _ hle)
            rcases hown.2 with ⟨h1, rfl⟩ | ⟨g, cap, cur, h1, h2, h3, h4, h5, h6, h7⟩
            · have : m.toNat = 0 := by omega
              exact ⟨none, 0, h1, Nat.le_refl _, by rw [this] at hl ⊢; exact ⟨hl, .inl ⟨rfl, rfl⟩⟩⟩
            · refine ⟨some ⟨g, 0, none⟩, cap, h1, h4, hl, .inr ⟨g, cap, cur, rfl, h2, h3, by omega, h5, h6, ?_⟩⟩
              rw [← h7, List.take_take, Nat.min_eq_left (Nat.mul_le_mul_right _ hle)]
          have hrun : (Instr.sliceAt t (.slice ao n cp) none (some (.int kk m)) none).run P w = .ok (.slice ao m.toNat cp) w := by
            have hb : (Instr.sliceBounds true n cp none (some (.int kk m)) none).run P w = .ok (0, m.toNat, cp) w := by
              have e : (Instr.sliceBounds true n cp none (some (.int kk m)) none).run P w = ((Instr.sliceBound (.int kk m) cp .sliceAcap).bind fun h => (pure (0, h, cp) : Sem (Nat × Nat × Nat))).run P w := rfl
              rw [e, Sem.run_bind', run_bound hp.1 (by omega)]; rfl
            simp only [Instr.sliceAt, Sem.run_bind, run_underlying hu, Result.andThen_ok, Instr.slice]
            rw [hb]
            simp only [Result.andThen_ok, run_szOf hsz0, run_pure', Nat.zero_mul, Nat.sub_zero]
            have hadd : ∀ (x : Addr), x.add 0 = x := fun x => by simp [Addr.add]
            have : (if cp = 0 then ao else Option.map (fun x => x.add 0) ao) = ao := by
              split
              · rfl
              · cases ao <;> simp [hadd]
            rw [this]
          obtain ⟨σ', ov', hag, g2, r'⟩ := r.regrow hwf (some k) (row := (ov k).ownBlock) (w' := w) (fun b hb => ⟨k, _, rfl, hck, hb⟩) (World.grownBy.refl _ _) hrow (fun b hb => .inl (by rw [e3]; cases ao with | none => simp [Value.ownBlock] at hb | some x => simpa [Value.ownBlock] using hb))
          refine ⟨w, σ', ov', ?_, by simp, r'⟩
          simp only [execOp, e1, e2, e3, Option.map_none, Option.map_some]
          refine run_value ?_
          rw [hrun]
          simp only [SV.den, SC.den, g2]
      · simp at h
    · simp at h
  · rename_i args ts
    split at h
    · rename_i x y t t' hargs hts
      split at h
      · rename_i sx j e hx hy hu
        split at h
        · rename_i ej sj m ys i hckj hi
          split at h
          · rename_i z hz
            cases hb : (Nat.beq t t' && st.wf && Nat.beq ej e && Nat.beq sj i.size && Nat.beq z.cells.toList.length i.size && Nat.blt 0 i.size)
            · rw [hb] at h; simp at h
            · rw [hb] at h
              simp only [cond_true] at h
              simp only [Bool.and_eq_true] at hb
              have q1 := Nat.eq_of_beq_eq_true hb.1.1.1.1.1
              have hwf := hb.1.1.1.1.2
              have q2 := Nat.eq_of_beq_eq_true hb.1.1.1.2
              have q3 := Nat.eq_of_beq_eq_true hb.1.1.2
              have q4 := Nat.eq_of_beq_eq_true hb.1.2
              have q5 : 0 < i.size := Nat.le_of_ble_eq_true hb.2
              have ea : args = #[x, y] := by cases args; simp_all
              have et : ts = #[t, t'] := by cases ts; simp_all
              subst ea; subst et; subst q1; subst q2; subst q3
              have e1 : a.eval x = sx.den σ ov := (evalO_sound r (g := none) trivial hx).1
              have e2 : a.eval y = ov j := (evalO_sound r (g := none) trivial hy).1
              obtain ⟨ao, c, e3, hn, hcells⟩ := own_source r hckj
              have hyl : ys.length = m * i.size := (r.own j _ hckj).1.1
              rw [e3] at e2
              split at h
              · rename_i k
                split at h
                · rename_i ek sk n xs hckk
                  cases hb2 : (Nat.beq ek ej && Nat.beq sk i.size && !Nat.beq k j)
                  · rw [hb2] at h; simp at h
                  · rw [hb2] at h
                    simp only [cond_true, Option.some.injEq, Prod.mk.injEq] at h
                    obtain ⟨rfl, rfl, rfl⟩ := h
                    simp only [Bool.and_eq_true] at hb2
                    have p1 := Nat.eq_of_beq_eq_true hb2.1.1
                    have p2 := Nat.eq_of_beq_eq_true hb2.1.2
                    subst p1; subst p2
                    simp only [Holds] at hp
                    obtain ⟨v', w', hr, ho, hg, hv⟩ := append_where (P := P) (ty := ty) hu hi hz rfl (by rw [← Array.length_toList]; exact q4) q5 (r.own k _ hckk).1 hyl hn hcells hp.1 hp.2.1 hp.2.2 r.ext.size
                    obtain ⟨σ', ov', hag, g2, r'⟩ := r.regrow hwf (some k) (fun b hb => ⟨k, _, rfl, hckk, hb⟩) hg ho hv
                    refine ⟨w', σ', ov', ?_, by simp, r'⟩
                    rw [run_append_call e1 e2 hr]
                    simp only [SV.den, SC.den, g2]
                · simp at h
              · simp only [Option.some.injEq, Prod.mk.injEq] at h
                obtain ⟨rfl, rfl, rfl⟩ := h
                simp only [Holds] at hp
                obtain ⟨v', w', hr, ho, hg, hv⟩ := append_where (P := P) (ty := ty) (n := 0) (xs := []) hu hi hz rfl (by rw [← Array.length_toList]; exact q4) q5 (World.ownsRow_nil w w0.heap.size ej i.size) hyl hn hcells hp.1 (by rw [Nat.zero_add]; exact hp.2.1) (by rw [Nat.zero_add]; exact hp.2.2) r.ext.size
                rw [Nat.zero_add, List.nil_append] at ho
                obtain ⟨σ', ov', hag, g2, r'⟩ := r.regrow hwf none (row := none) (by simp) hg ho (by simpa [Value.ownBlock] using hv)
                refine ⟨w', σ', ov', ?_, by simp, r'⟩
                rw [run_append_call e1 e2 hr]
                simp only [SV.den, SC.den, g2]
              · simp at h
          · simp at h
        · simp at h
      · simp at h
    · simp at h
  · simp at h
end
end Go.Sy

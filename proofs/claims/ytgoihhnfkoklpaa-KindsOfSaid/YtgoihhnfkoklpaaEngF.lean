/- An executor for function bodies of the model, part F: the computing operations do what part E says. Conditions: each operation's own, told as a proposition. -/
import Derived.Test.YtgoihhnfkoklpaaEngE
namespace Go.Sy
open Go.RowKit

theorem run_value {P : Program} {w w' : World} {s : Sem Value} {v : Value} (h : s.run P w = .ok v w') : (do pure (Next.value (← s)) : Sem Next).run P w = .ok (.value v) w' := by
  simp only [Sem.run_bind, h, Result.andThen_ok]; rfl
theorem addr_add (b off n : Nat) : (⟨b, off, none⟩ : Addr).add n = ⟨b, off + n, none⟩ := by
  unfold Addr.add; split
  · rename_i h; subst h; rfl
  · rfl
theorem size_eq (s : ByteArray) : s.size = s.data.toList.length := (Array.length_toList).symm
theorem str_len (s : ByteArray) : (s.size : Int) = strLen s.data.toList := by unfold strLen; rw [size_eq]
theorem run_pure' {α : Type} {P : Program} {w : World} (x : α) : (pure x : Sem α).run P w = .ok x w := rfl
theorem extract_bs (s : ByteArray) (l h : Nat) : s.extract l h = bs ((s.data.toList.take h).drop l) := by
  rw [← bs_eta (s.extract l h), Lib.extract_data]
  congr 1
  rw [List.drop_take]
theorem run_bound {P : Program} {w : World} {k : IntKind} {n : Int} {y : Nat} {c : BoundsCode} (h0 : 0 ≤ n) (h1 : n ≤ y) : (Instr.sliceBound (.int k n) y c).run P w = .ok n.toNat w := by
  simp only [Instr.sliceBound, asIntOf, Sem.run_bind]
  show ((if 0 ≤ n ∧ n ≤ (y : Int) then pure n.toNat else _ : Sem Nat)).run P w = _
  rw [if_pos ⟨h0, h1⟩]; rfl
theorem run_len_string {P : Program} {w : World} {t ty : TypeId} {s : ByteArray} (h : P.underlying t = some .string) : (Builtin.len_ #[t] ty #[.string s]).run P w = .ok (.int .i64 (strLen s.data.toList)) w := by
  simp only [Builtin.len_]
  show ((underlying t).bind _).run P w = _
  rw [Sem.run_bind', run_underlying h]
  simp only [Result.andThen_ok]
  rw [← str_len]; rfl
theorem run_len_slice {P : Program} {w : World} {t ty e : TypeId} {a : Option Addr} {n c : Nat} (h : P.underlying t = some (.slice e)) : (Builtin.len_ #[t] ty #[.slice a n c]).run P w = .ok (.int .i64 n) w := by
  simp only [Builtin.len_]
  show ((underlying t).bind _).run P w = _
  rw [Sem.run_bind', run_underlying h]
  rfl
theorem den_run_field {P : Program} {t : TypeId} {fs : Array Field} (h : P.underlying t = some (.struct fs)) (i : Nat) : fieldOf P t i = fs[i]? := by simp [fieldOf, h]
theorem fieldOf_struct {P : Program} {t : TypeId} {i : Nat} {fd : Field} (h : fieldOf P t i = some fd) : ∃ fs, P.underlying t = some (.struct fs) ∧ fs[i]? = some fd := by
  unfold fieldOf at h
  split at h
  · rename_i fs hu; exact ⟨fs, hu, h⟩
  · simp at h

theorem run_slice_str {P : Program} {w : World} {t : TypeId} {s : ByteArray} {lo hi : Option Value} {l h m : Nat} (ht : P.underlying t = some .string)
    (hb : (Instr.sliceBounds false s.size s.size lo hi none).run P w = .ok (l, h, m) w) : (Instr.sliceAt t (.string s) lo hi none).run P w = .ok (.string (bs ((s.data.toList.take h).drop l))) w := by
  have hs : (Instr.slice t (.string s) lo hi none).run P w = .ok (.string (s.extract l h)) w := by
    simp only [Instr.slice, Sem.run_bind, run_underlying ht, Result.andThen_ok]
    show ((Instr.sliceBounds false s.size s.size lo hi none).bind _).run P w = _
    rw [Sem.run_bind', hb]
    rfl
  simp only [Instr.sliceAt, Sem.run_bind, run_underlying ht, Result.andThen_ok]
  rw [← extract_bs]
  exact hs
theorem run_sb_nn {P : Program} {w : World} (n : Nat) : (Instr.sliceBounds false n n none none none).run P w = .ok (0, n, n) w := rfl
theorem run_sb_hi {P : Program} {w : World} (n : Nat) {k : IntKind} {m : Int} (h0 : 0 ≤ m) (h1 : m ≤ n) : (Instr.sliceBounds false n n none (some (.int k m)) none).run P w = .ok (0, m.toNat, n) w := by
  have e : (Instr.sliceBounds false n n none (some (.int k m)) none).run P w = ((Instr.sliceBound (.int k m) n .sliceAlen).bind fun h => (pure (0, h, n) : Sem (Nat × Nat × Nat))).run P w := rfl
  rw [e, Sem.run_bind', run_bound h0 h1]; rfl
theorem run_sb_lo {P : Program} {w : World} (n : Nat) {k : IntKind} {m : Int} (h0 : 0 ≤ m) (h1 : m ≤ n) : (Instr.sliceBounds false n n (some (.int k m)) none none).run P w = .ok (m.toNat, n, n) w := by
  have e : (Instr.sliceBounds false n n (some (.int k m)) none none).run P w = ((Instr.sliceBound (.int k m) n .sliceB).bind fun l => (pure (l, n, n) : Sem (Nat × Nat × Nat))).run P w := rfl
  rw [e, Sem.run_bind', run_bound h0 h1]; rfl
theorem run_sb_both {P : Program} {w : World} (n : Nat) {k k' : IntKind} {l m : Int} (h0 : 0 ≤ l) (h1 : l ≤ m) (h2 : m ≤ n) : (Instr.sliceBounds false n n (some (.int k l)) (some (.int k' m)) none).run P w = .ok (l.toNat, m.toNat, n) w := by
  have e : (Instr.sliceBounds false n n (some (.int k l)) (some (.int k' m)) none).run P w =
    ((Instr.sliceBound (.int k' m) n .sliceAlen).bind fun h => (Instr.sliceBound (.int k l) h .sliceB).bind fun l => (pure (l, h, n) : Sem (Nat × Nat × Nat))).run P w := rfl
  rw [e, Sem.run_bind', run_bound (by omega) h2]
  simp only [Result.andThen_ok]
  rw [Sem.run_bind', run_bound h0 (by omega)]; rfl

theorem run_indexAddr {P : Program} {w : World} {t e : TypeId} {b off n c sz : Nat} {k : IntKind} {j : Int} (hu : P.underlying t = some (.slice e)) (hs : szOf P e = some sz) (h0 : 0 ≤ j) (h1 : j < n) :
    (Instr.indexAt t (.slice (some ⟨b, off, none⟩) n c) (.int k j)).run P w = .ok (.pointer (some ⟨b, off + j.toNat * sz, none⟩)) w := by
  unfold Instr.indexAt
  simp only [Sem.run_bind, asIntOf, run_pure', Result.andThen_ok, run_underlying hu, h0, h1, and_self, if_true, run_szOf hs, addr_add, Bool.and_false]

section
variable {P : Program} {w0 : World} {H : Nat → Option Obj} {st : ST} {σ : Nat → Nat} {ov : Nat → Value} {a : Act} {w : World}
set_option maxHeartbeats 1000000 in
theorem opV_sound (r : Rel P w0 H st σ ov a w) {g : Option (Nat × Bool)} (hg : GuardOn a g)
    {o : Oper} {p : Option Prop} {sv : SV} (h : opV P st g o.op = some (p, sv)) (hp : Holds p) : (execOp a.eval o).run P w = .ok (.value (sv.den σ ov)) w ∧ (∀ s b v, sv ≠ .grd s b v) := by
  obtain ⟨dst, op, ty, pos, after, guard⟩ := o
  simp only at h
  cases op with
  | move x =>
    simp only [opV, Option.map_eq_some_iff, Prod.mk.injEq] at h
    obtain ⟨sv', he, rfl, rfl⟩ := h
    obtain ⟨e1, e2⟩ := evalO_sound r hg he
    refine ⟨?_, e2⟩
    simp only [execOp, e1]; rfl
  | assign x =>
    simp only [opV, Option.map_eq_some_iff, Prod.mk.injEq] at h
    obtain ⟨sv', he, rfl, rfl⟩ := h
    obtain ⟨e1, e2⟩ := evalO_sound r hg he
    refine ⟨?_, e2⟩
    simp only [execOp, e1]; rfl
  | pick c x y =>
    simp only [opV] at h
    split at h
    · rename_i s
      split at h
      · rename_i b va vb hc hx hy
        simp only [Option.map_eq_some_iff, Prod.mk.injEq] at h
        obtain ⟨sc, hk, rfl, rfl⟩ := h
        refine ⟨?_, by simp⟩
        have ec : a.eval (.tmp s) = .bool b := (evalO_sound r hg hc).1
        have ec' : a.tmps.getD s undef = .bool b := ec
        have ek := pickV_sound (σ := σ) (ov := ov) hk
        simp only [execOp, ec, asBool]
        cases b
        · have e1 := armOf_sound r hg hy ec'
          simp only [cond_false] at ek
          simp only [SV.den, ek, ← e1]; rfl
        · have e1 := armOf_sound r hg hx ec'
          simp only [cond_true] at ek
          simp only [SV.den, ek, ← e1]; rfl
      · simp at h
    · simp at h
  | binOp op t x y yt =>
    simp only [opV] at h
    split at h
    · rename_i v u hx hy
      simp only [Option.map_eq_some_iff, Prod.mk.injEq] at h
      obtain ⟨⟨p', v'⟩, hb, rfl, rfl⟩ := h
      refine ⟨?_, by simp⟩
      have e1 : a.eval x = v := (evalO_sound r hg hx).1
      have e2 : a.eval y = u := (evalO_sound r hg hy).1
      obtain ⟨hr, hn⟩ := binV_sound (P := P) (w := w) hb hp
      simp only [execOp, e1, e2]
      refine run_value ?_
      simp only [Sem.run_bind, eqGuard_plain op t x y hn, Result.andThen_ok, hr]; rfl
    · simp at h
  | unOp op t x =>
    simp only [opV] at h
    split at h
    · rename_i b hx
      simp only [Option.some.injEq, Prod.mk.injEq] at h
      obtain ⟨rfl, rfl⟩ := h
      have e1 : a.eval x = .bool b := (evalO_sound r hg hx).1
      refine ⟨?_, by simp⟩
      simp only [execOp, e1]; rfl
    · rename_i k n hx
      simp only [Option.some.injEq, Prod.mk.injEq] at h
      obtain ⟨rfl, rfl⟩ := h
      have e1 : a.eval x = .int k n := (evalO_sound r hg hx).1
      refine ⟨?_, by simp⟩
      simp only [execOp, e1]; rfl
    · simp at h
  | convert src dst' x =>
    simp only [opV] at h
    split at h
    · rename_i d k k' n hs hd hx
      simp only [Option.some.injEq, Prod.mk.injEq] at h
      obtain ⟨rfl, rfl⟩ := h
      have e1 : a.eval x = .int k' n := (evalO_sound r hg hx).1
      refine ⟨?_, by simp⟩
      simp only [execOp, e1]
      refine run_value ?_
      simp only [convert, Sem.run_bind, run_underlying hs, run_underlying hd, Result.andThen_ok]
      rfl
    · rename_i d s hs hd hx
      simp only [Option.some.injEq, Prod.mk.injEq] at h
      obtain ⟨rfl, rfl⟩ := h
      have e1 : a.eval x = .string s := (evalO_sound r hg hx).1
      refine ⟨?_, by simp⟩
      simp only [execOp, e1]
      refine run_value ?_
      simp only [convert, Sem.run_bind, run_underlying hs, run_underlying hd, Result.andThen_ok]
      rfl
    · simp at h
  | extract x i =>
    simp only [opV] at h
    split at h
    · rename_i vs hx
      simp only [Option.map_eq_some_iff, Prod.mk.injEq] at h
      obtain ⟨v, hv, rfl, rfl⟩ := h
      have e1 : a.eval x = .tuple vs := (evalO_sound r hg hx).1
      refine ⟨?_, by simp⟩
      simp only [execOp, e1]
      refine run_value ?_
      simp only [Instr.extract, hv]; rfl
    · simp at h
  | field t x i =>
    simp only [opV] at h
    split at h
    · rename_i sv' fd hx hf
      split at h
      · rename_i cs hc
        simp only [Option.map_eq_some_iff, Prod.mk.injEq] at h
        obtain ⟨sv'', hv, rfl, rfl⟩ := h
        have e1 : a.eval x = _ := (evalO_sound r hg hx).1
        rw [svCells_sound hc] at e1
        obtain ⟨fs, hu, hfi⟩ := fieldOf_struct hf
        obtain ⟨hr, hn⟩ := run_part (P := P) (w := w) (σ := σ) (ov := ov) hv
        refine ⟨?_, hn⟩
        simp only [execOp, e1]
        refine run_value ?_
        simp only [Instr.field, Sem.run_bind, run_underlying hu, Result.andThen_ok, hfi, asAgg, run_pure', hr]
      · simp at h
    · simp at h
  | fieldAddr t x i =>
    simp only [opV] at h
    split at h
    · rename_i j off fd hx hf
      split at h
      · rename_i n hs
        simp only [Option.some.injEq, Prod.mk.injEq] at h
        obtain ⟨rfl, rfl⟩ := h
        have e1 : a.eval x = .pointer (some ⟨σ j, off, none⟩) := (evalO_sound r hg hx).1
        obtain ⟨fs, hu, hfi⟩ := fieldOf_struct hf
        refine ⟨?_, by simp⟩
        simp only [execOp, e1]
        refine run_value ?_
        simp only [Instr.fieldAt, Sem.run_bind, run_underlying hu, Result.andThen_ok, hfi, Instr.sureAddr, fieldPlace, run_pure', run_szOf hs, Nat.add_one_ne_zero, if_false, addr_add]
        rfl
      · simp at h
    · rename_i b off fd hx hf
      split at h
      · rename_i n hs
        simp only [Option.some.injEq, Prod.mk.injEq] at h
        obtain ⟨rfl, rfl⟩ := h
        have e1 : a.eval x = .pointer (some ⟨b, off, none⟩) := (evalO_sound r hg hx).1
        obtain ⟨fs, hu, hfi⟩ := fieldOf_struct hf
        refine ⟨?_, by simp⟩
        simp only [execOp, e1]
        refine run_value ?_
        simp only [Instr.fieldAt, Sem.run_bind, run_underlying hu, Result.andThen_ok, hfi, Instr.sureAddr, fieldPlace, run_pure', run_szOf hs, Nat.add_one_ne_zero, if_false, addr_add]
        rfl
      · simp at h
    · simp at h
  | load t x =>
    simp only [opV] at h
    split at h
    · rename_i i off hx
      split at h
      · rename_i cs hc
        simp only [Option.map_eq_some_iff, Prod.mk.injEq] at h
        obtain ⟨sv'', hv, rfl, rfl⟩ := h
        have e1 : a.eval x = .pointer (some ⟨σ i, off, none⟩) := (evalO_sound r hg hx).1
        unfold fieldCells at hc
        split at hc
        · rename_i cs' e hck
          simp only [Option.some.injEq] at hc
          subst hc
          have hown := r.own i _ hck
          obtain ⟨hr, hn⟩ := run_loadVar (P := P) (σ := σ) (ov := ov) hown rfl hv
          refine ⟨?_, hn⟩
          simp only [execOp, e1]
          refine run_value ?_
          simp only [Instr.loadAt, Instr.sureAddr, Sem.run_bind, run_pure', Result.andThen_ok, hr]
        · simp at hc
      · simp at h
    · simp at h
  | index t x i =>
    simp only [opV] at h
    split at h
    · rename_i s n hx ht hi
      simp only [Option.some.injEq, Prod.mk.injEq] at h
      obtain ⟨rfl, rfl⟩ := h
      simp only [Holds] at hp
      have e1 : a.eval x = .string s := (evalO_sound r hg hx).1
      obtain ⟨k, e2⟩ := intOf_sound r hg hi
      refine ⟨?_, by simp⟩
      simp only [execOp, e1, e2]
      refine run_value ?_
      simp only [Instr.index, asIntOf, Sem.run_bind, run_underlying ht]
      simp only [run_pure', Sem.run_bind, Result.andThen_ok]
      have hlt : n.toNat < s.size := by
        have := hp.2
        rw [← str_len] at this
        omega
      have hget : s[n.toNat]? = some (s.data.toList.getD n.toNat 0) := by
        rw [getElem?_pos s n.toNat hlt]
        simp only [Option.some.injEq]
        have : n.toNat < s.data.toList.length := by rw [← size_eq]; exact hlt
        rw [List.getD_eq_getElem?_getD, List.getElem?_eq_getElem this]
        rfl
      simp only [hp.1, if_true, hget]
      rfl
    · simp at h
  | slice t x lo hi mx =>
    cases mx with
    | some _ => simp [opV] at h
    | none =>
      simp only [opV] at h
      split at h
      · rename_i s hx ht
        have e1 : a.eval x = .string s := (evalO_sound r hg hx).1
        have hlen := str_len s
        cases lo with
        | none =>
          cases hi with
          | none =>
            simp only [Option.some.injEq, Prod.mk.injEq] at h
            obtain ⟨rfl, rfl⟩ := h
            refine ⟨?_, by simp⟩
            simp only [execOp, e1, Option.map_none]
            refine run_value ?_
            rw [run_slice_str ht (run_sb_nn _), size_eq, List.take_length]; rfl
          | some h1 =>
            simp only at h
            split at h
            · rename_i m hm
              simp only [Option.some.injEq, Prod.mk.injEq] at h
              obtain ⟨rfl, rfl⟩ := h
              simp only [Holds] at hp
              obtain ⟨k, e2⟩ := intOf_sound r hg hm
              refine ⟨?_, by simp⟩
              simp only [execOp, e1, Option.map_none, Option.map_some, e2]
              refine run_value ?_
              rw [run_slice_str ht (run_sb_hi _ hp.1 (by omega))]; rfl
            · simp at h
        | some l1 =>
          cases hi with
          | none =>
            simp only at h
            split at h
            · rename_i m hm
              simp only [Option.some.injEq, Prod.mk.injEq] at h
              obtain ⟨rfl, rfl⟩ := h
              simp only [Holds] at hp
              obtain ⟨k, e2⟩ := intOf_sound r hg hm
              refine ⟨?_, by simp⟩
              simp only [execOp, e1, Option.map_none, Option.map_some, e2]
              refine run_value ?_
              rw [run_slice_str ht (run_sb_lo _ hp.1 (by omega)), size_eq, List.take_length]; rfl
            · simp at h
          | some h1 =>
            simp only at h
            split at h
            · rename_i n m hn hm
              simp only [Option.some.injEq, Prod.mk.injEq] at h
              obtain ⟨rfl, rfl⟩ := h
              simp only [Holds] at hp
              obtain ⟨k, e2⟩ := intOf_sound r hg hm
              obtain ⟨k', e3⟩ := intOf_sound r hg hn
              refine ⟨?_, by simp⟩
              simp only [execOp, e1, Option.map_none, Option.map_some, e2, e3]
              refine run_value ?_
              rw [run_slice_str ht (run_sb_both _ hp.1 hp.2.1 (by omega))]; rfl
            · simp at h
      · simp at h
  | indexAddr t x i =>
    simp only [opV] at h
    split at h
    · rename_i b off n cp e j hx ht hi
      split at h
      · rename_i sz hs
        simp only [Option.some.injEq, Prod.mk.injEq] at h
        obtain ⟨rfl, rfl⟩ := h
        simp only [Holds] at hp
        have e1 : a.eval x = .slice (some ⟨b, off, none⟩) n cp := (evalO_sound r hg hx).1
        obtain ⟨k, e2⟩ := intOf_sound r hg hi
        refine ⟨?_, by simp⟩
        simp only [execOp, e1, e2]
        refine run_value ?_
        rw [run_indexAddr ht hs hp.1 hp.2]; rfl
      · simp at h
    · rename_i m e j hx ht hi
      split at h
      · rename_i sz e' sz' n xs hs hck
        simp only [Option.some.injEq, Prod.mk.injEq] at h
        obtain ⟨rfl, rfl⟩ := h
        simp only [Holds] at hp
        have e1 : a.eval x = ov m := (evalO_sound r hg hx).1
        obtain ⟨k, e2⟩ := intOf_sound r hg hi
        have hown := r.own m _ hck
        have e3 : ∃ b cp, ov m = .slice (some ⟨b, 0, none⟩) n cp ∧ σ m = b := by
          rcases hown.1.2 with ⟨h1, rfl⟩ | ⟨g', cap, cur, h1, _⟩
          · omega
          · exact ⟨_, _, h1, hown.2 _ (by rw [h1]; rfl)⟩
        obtain ⟨b, cp, e3, e4⟩ := e3
        refine ⟨?_, by simp⟩
        simp only [execOp, e1, e2, e3]
        refine run_value ?_
        rw [run_indexAddr ht hs hp.1 hp.2, Nat.zero_add]
        simp only [SV.den, SC.den, e4]
      · simp at h
    · simp at h
  | makeInterface t x =>
    simp only [opV] at h
    split at h
    · rename_i sv' d hx ht
      split at h
      · simp at h
      · rename_i v hni hv
        simp only [Option.some.injEq, Prod.mk.injEq] at h
        obtain ⟨rfl, rfl⟩ := h
        have e1 : a.eval x = v := by rw [(evalO_sound r hg hx).1, toVal_den hv]
        refine ⟨?_, by simp⟩
        simp only [execOp, e1]
        refine run_value ?_
        simp only [Instr.makeInterface, Sem.run_bind, run_underlying ht, Result.andThen_ok]
        rfl
      · simp at h
    · simp at h
  | makeFunc fn first cap =>
    simp only [opV] at h
    split at h
    · rename_i x y hx hy
      simp only [Option.some.injEq, Prod.mk.injEq] at h
      obtain ⟨rfl, rfl⟩ := h
      have e1 := scList_sound r hg _ _ hx
      have e2 := scList_sound r hg _ _ hy
      refine ⟨?_, by simp⟩
      simp only [execOp]
      refine run_value ?_
      have f1 : first.map a.eval = (x.map (SC.den σ ov)).toArray := by rw [← e1]; exact (Array.toList_inj).1 (by rw [Array.toList_map])
      have f2 : cap.map a.eval = (y.map (SC.den σ ov)).toArray := by rw [← e2]; exact (Array.toList_inj).1 (by rw [Array.toList_map])
      simp only [Instr.makeFunc, f1, f2]; rfl
    · simp at h
  | nilCheck x =>
    simp only [opV] at h
    split at h
    · rename_i i off hx
      simp only [Option.some.injEq, Prod.mk.injEq] at h
      obtain ⟨rfl, rfl⟩ := h
      have e1 : a.eval x = .pointer (some ⟨σ i, off, none⟩) := (evalO_sound r hg hx).1
      refine ⟨?_, by simp⟩
      simp only [execOp, e1]; rfl
    · rename_i ad hx
      simp only [Option.some.injEq, Prod.mk.injEq] at h
      obtain ⟨rfl, rfl⟩ := h
      have e1 : a.eval x = .pointer (some ad) := (evalO_sound r hg hx).1
      refine ⟨?_, by simp⟩
      simp only [execOp, e1]; rfl
    · rename_i f' x' y' hx
      simp only [Option.some.injEq, Prod.mk.injEq] at h
      obtain ⟨rfl, rfl⟩ := h
      have e1 := (evalO_sound r hg hx).1
      refine ⟨?_, by simp⟩
      simp only [execOp, e1, SV.den]; rfl
    · simp at h
  | call c =>
    obtain ⟨callee, args, ts⟩ := c
    cases callee with
    | builtin b =>
      cases b <;> first | (simp [opV] at h; done) | skip
      simp only [opV] at h
      split at h
      · rename_i x t hx ht
        have ea : args = #[x] := by cases args; simp_all
        have et : ts = #[t] := by cases ts; simp_all
        subst ea; subst et
        split at h
        · rename_i s he hu
          simp only [Option.some.injEq, Prod.mk.injEq] at h
          obtain ⟨rfl, rfl⟩ := h
          have e1 : a.eval x = .string s := (evalO_sound r hg he).1
          refine ⟨?_, by simp⟩
          simp only [execOp, resolve, Sem.run_bind]
          simp only [run_pure', Sem.run_bind, Result.andThen_ok, invoke, builtin, List.map_toArray, List.map_cons, List.map_nil, e1, run_len_string (ty := ty) hu]
          rfl
        · rename_i ad n cp e he hu
          simp only [Option.some.injEq, Prod.mk.injEq] at h
          obtain ⟨rfl, rfl⟩ := h
          have e1 : a.eval x = .slice ad n cp := (evalO_sound r hg he).1
          refine ⟨?_, by simp⟩
          simp only [execOp, resolve, Sem.run_bind]
          simp only [run_pure', Sem.run_bind, Result.andThen_ok, invoke, builtin, List.map_toArray, List.map_cons, List.map_nil, e1, run_len_slice (ty := ty) hu]
          rfl
        · rename_i i e he hu
          split at h
          · rename_i e' sz n xs hck
            simp only [Option.some.injEq, Prod.mk.injEq] at h
            obtain ⟨rfl, rfl⟩ := h
            have e1 : a.eval x = ov i := (evalO_sound r hg he).1
            have hown := r.own i _ hck
            have e2 : ∃ ad cp, ov i = .slice ad n cp := by
              rcases hown.1.2 with ⟨h1, rfl⟩ | ⟨g', cap, cur, h1, _⟩
              · exact ⟨_, _, h1⟩
              · exact ⟨_, _, h1⟩
            obtain ⟨ad, cp, e2⟩ := e2
            refine ⟨?_, by simp⟩
            simp only [execOp, resolve, Sem.run_bind]
            simp only [run_pure', Sem.run_bind, Result.andThen_ok, invoke, builtin, List.map_toArray, List.map_cons, List.map_nil, e1, e2, run_len_slice (ty := ty) hu]
            rfl
          · simp at h
        · simp at h
      · simp at h
    | value _ => exact absurd (show (none : Option (Option Prop × SV)) = some (p, sv) from h) (by simp)
    | invoke _ _ => exact absurd (show (none : Option (Option Prop × SV)) = some (p, sv) from h) (by simp)
  | _ => simp [opV] at h
end
end Go.Sy

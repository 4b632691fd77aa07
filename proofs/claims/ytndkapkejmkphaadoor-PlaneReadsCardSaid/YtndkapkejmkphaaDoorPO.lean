/- An executor for function bodies of the model over data, part PO: a statement whose order Go leaves open, as one step. Conditions: each operation's own. -/
import Derived.Test.YtndkapkejmkphaaDoorPN
namespace Go.Ev
open Go.RowKit

structure FO where
  sv : SV
  tight : Option TypeId
def Tight (V : Vn) (e : TypeId) (t : ETy) (l : List t.den) (v : Value) : Prop :=
  ∃ g cur, v = .slice (some ⟨g, 0, none⟩) l.length l.length ∧ V.H g = some (.cells cur e (0, 0)) ∧ cur.size = l.length * t.size ∧ l.length ≤ maxLen ∧ All2 (PR V.H) (l.flatMap t.enc) cur.toList
def FO.R (V : Vn) (fo : FO) (v : Value) : Prop := fo.sv.R V v ∧ ∀ e, fo.tight = some e → match fo.sv with
  | .x (.c (.pd (.lst t l))) => Tight V e t l v
  | _ => False
theorem Tight.lst {V : Vn} {e : TypeId} {t : ETy} {l : List t.den} {v : Value} (h : Tight V e t l v) : PR V.H (.lst t l) v := by
  obtain ⟨g, cur, rfl, h1, h2, h3, h4⟩ := h
  refine .lst t l g 0 l.length cur e (0, 0) h1 (Nat.le_refl _) h3 (by omega) fun i x hx j p hp u hu => ?_
  obtain ⟨u', h5, h6⟩ := h4.get (flat_get hx hp)
  rw [Nat.zero_add] at hu
  have : cur[i * t.size + j]? = some u' := by simpa using h5
  rw [hu] at this
  simp only [Option.some.injEq] at this
  subst this; exact h6
theorem SV.R_agree {n : Nat} {V V' : Vn} (h : Agree n V V') {sv : SV} (hs : sv.lt n = true) {v : Value} (hr : sv.R V v) : sv.R V' v := by
  cases sv with
  | x s => exact SX.R_agree h hs hr
  | tup l => obtain ⟨us, e, h1⟩ := hr; exact ⟨us, e, h1.mono fun a b ha hab => SX.R_agree h (List.all_eq_true.1 hs a ha) hab⟩
  | grd _ _ _ => exact hr
theorem Tight.mono {V V' : Vn} (hle : HLe V.H V'.H) {e : TypeId} {t : ETy} {l : List t.den} {v : Value} (h : Tight V e t l v) : Tight V' e t l v := by
  obtain ⟨g, cur, h0, h1, h2, h3, h4⟩ := h
  exact ⟨g, cur, h0, hle _ _ h1, h2, h3, h4.mono fun _ _ _ hp => hp.mono hle⟩
theorem FO.R_agree {n : Nat} {V V' : Vn} (h : Agree n V V') {fo : FO} (hs : fo.sv.lt n = true) {v : Value} (hr : fo.R V v) : fo.R V' v := by
  refine ⟨SV.R_agree h hs hr.1, fun e he => ?_⟩
  have h2 := hr.2 e he
  split
  · rename_i hsv; rw [hsv] at h2; exact Tight.mono h.hle h2
  · rename_i hsv
    split at h2
    · rename_i t l hsv2; exact absurd hsv2 (hsv t l)
    · exact h2
theorem SV.R_frz {V : Vn} {z : Frz} (hz : z.ok V) {sv : SV} {v : Value} (h : sv.R V v) : (sv.frz z).R V v := by
  cases sv with
  | x s => exact SX.R_frz hz h
  | tup l => obtain ⟨us, e, h1⟩ := h; exact ⟨us, e, by rw [All2.map_left]; exact h1.mono fun _ _ _ hab => SX.R_frz hz hab⟩
  | grd _ _ _ => exact h
section
variable {Γ : Ctx} {P : Program} {cfg : Cfg} {st : ST} {V : Vn} {a : Act} {w : World} {ops : Array Oper} {fs : List FO} {ck : List Chunk}
theorem WOk.chop (r : WOk Γ (ck ++ [.dead]) V w) : WOk Γ ck V w := by
  have hget : ∀ (i : Nat) (c : Chunk), ck[i]? = some c → (ck ++ [.dead])[i]? = some c := fun i c h => by rw [List.getElem?_append_left (List.getElem?_eq_some_iff.1 h).1]; exact h
  exact { ext := r.ext, imm := r.imm, hle := r.hle, frz := r.frz, agr := r.agr, own := fun i c h => r.own i c (hget i c h), base := fun i c b h hb => r.base i c b (hget i c h) hb, inj := fun i j c d b hc hd hb1 hb2 => r.inj i j c d b (hget i c hc) (hget j d hd) hb1 hb2 }
end
end Go.Ev

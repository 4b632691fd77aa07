/- Rules: one operation by hand. Conditions: none. -/
import Derived.Test.YtndkapkejmkphaaDoorDa
namespace Go.Proofs.YtndkapkejmkphaaDoor
open Go Go.Ev Go.RowKit
set_option maxRecDepth 100000
def stepRun (P : Program) (cfg : Cfg) (root : Code) (p : List Nat) (i : Nat) (st : ST) : Option (Option Prop × ST) :=
  match (opsOf (sub root p))[i]? with
  | some o => match o.guard with
    | none => op1a P cfg o st
    | some _ => none
  | none => none
theorem J.step {P : Program} {cfg : Cfg} {f : FuncId} {root : Code} {Γ : Ctx} {Q : Out} {st st' : ST} (ht : TabOk P cfg.tab) {p : List Nat} {i : Nat} {k : List PI} {q : Option Prop} (h : stepRun P cfg root p i st = some (q, st')) (hq : Holds q) (hk : J P f root Γ Q (.ops p (i + 1) :: k) st') : J P f root Γ Q (.ops p i :: k) st := by
  unfold stepRun at h
  split at h
  · rename_i o ho
    split at h
    · rename_i hg
      intro hT V a w r
      have hi : i < (opsOf (sub root p)).size := (Array.getElem?_eq_some_iff.1 ho).1
      have hsz : (opsOf (sub root p)).size - i = ((opsOf (sub root p)).size - (i + 1)) + 1 := by omega
      simp only [List.map_cons, PI.den]
      rw [hsz, List.range'_succ]
      exact op1a_sound ⟨ht, hT⟩ r ho (by simp only [Region.wanted, hg]) h hq fun V' a' w' r' => hk hT V' a' w' r'
    · cases h
  · cases h
end Go.Proofs.YtndkapkejmkphaaDoor

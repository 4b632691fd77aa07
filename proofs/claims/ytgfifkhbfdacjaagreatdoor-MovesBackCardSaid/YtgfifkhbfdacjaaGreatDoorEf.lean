/- Contracts: moves.down. Conditions: sizes. -/
import Derived.Test.YtgfifkhbfdacjaaGreatDoorEa
import Derived.Test.YtgfifkhbfdacjaaGreatDoorTq
namespace Go.Proofs.YtgfifkhbfdacjaaGreatDoor
open Go Go.Ev
set_option maxRecDepth 100000
def pZ (c : Chart) (ts : List Int) (k : Int) : Prop := ah Tryz.prog 41 [.e .chart c, .i k, .l .int ts] [] (.x (.c (.pd (.lst .int (dnM c.states ts k.toNat))))) []
def BC : Ent := (41, fun
  | [.agg [.pd (.str a), .pd (.lst .str b), .pd (.lst .var c), .pd (.lst .stat d), .pd (.lst .tran e)], .c (.pd (.int .i64 k)), .c (.pd (.lst .int ts))], [] => some (some (pZ ⟨a, b, c, d, e⟩ ts k), .x (.c (.pd (.lst .int (dnM d ts k.toNat)))), [])
  | _, _ => none)
theorem JF : EntOk Tryz.prog BC := entOk fun vs ck => by
  unfold BC; dsimp only; split
  · rename_i a b c d e k ts; exact entS fun hp => hp
  · exact entN
def vn : Ent := (103, fun
  | [.agg [.pd (.str a), .pd (.lst .str b), .pd (.lst .var c), .pd (.lst .stat d), .pd (.lst .tran e)], .c (.pd (.int .i64 i)), .c (.pd (.lst .int ts))], [] => some (none, .x (.c (.fn (.func 146) [] [.loc 0 0, .loc 1 0, .loc 2 0])), [.cells [.pd (.str a), .pd (.lst .str b), .pd (.lst .var c), .pd (.lst .stat d), .pd (.lst .tran e)] 27, .cells [.pd (.int .i64 i)] 3, .cells [.pd (.lst .int ts)] 36])
  | _, _ => none)
theorem Ib : EntOk Tryz.prog vn := entOk fun vs ck => by
  unfold vn; dsimp only; split
  · rename_i a b c d e i ts; exact entS fun hp => Fy ⟨a, b, c, d, e⟩ i ts
  · exact entN
def kK : Cfg := ⟨aY, [jL, jD, vn, BC]⟩
theorem iD : ag Tryz.prog kK.tab := (ag.cons jM (ag.cons jR (ag.cons Ib (ag.cons JF ag.nil))))

theorem J.cut {P : Program} {f : Go.Sy.Md} {root : Code} {Γ : Ctx} {Q : Out} {todo : List PI} {st : ST} (n : Nat) (hm : Nat.ble st.m n = true) (hn : Nat.ble n st.ck.length = true) (hk : J P f root Γ Q todo { st with ck := st.ck.take n }) : J P f root Γ Q todo st := fun hT V a w r =>
  hk hT V a w { size := r.size, defers := r.defers, slots := r.slots
                wok := r.wok.sub (fun x c h => by
                  have h' : (st.ck.take n)[x]? = some c := h
                  rw [List.getElem?_take] at h'
                  split at h'
                  · exact .inr h'
                  · cases h')
                few := ⟨r.few.1, by
                  have h1 := Nat.le_of_ble_eq_true hm; have h2 := Nat.le_of_ble_eq_true hn
                  show st.m ≤ (st.ck.take n).length
                  rw [List.length_take]; omega⟩ }
/-! ### what is entered below a state, one step -/
theorem lT {α β : Type} {f g : α → List β} : ∀ {l : List α}, (∀ x ∈ l, f x = g x) → l.flatMap f = l.flatMap g
  | [], _ => rfl
  | a :: r, h => by rw [List.flatMap_cons, List.flatMap_cons, h a (List.mem_cons_self ..), lT fun x hx => h x (List.mem_cons_of_mem _ hx)]
theorem yN {l : List Ev.Stat} (t : Tre l) {ch : Nat → Int} (hc : Kid l ch) : ∀ (n m i : Nat), i < l.length → l.length - i < n → l.length - i < m → dnC l ch n i = dnC l ch m i
  | 0, _, _, _, h, _ => by omega
  | _ + 1, 0, _, _, _, h => by omega
  | n + 1, m + 1, i, hi, hn, hm => by
    rw [dnC, dnC]
    refine lT fun y hy => ?_
    obtain ⟨q, rfl, h1, h2, _⟩ := (ix t hc hi y).1 hy
    have := (cB t.shp h1).1 h2
    rw [Int.toNat_natCast, yN t hc n m q h1 (by omega) (by omega)]
theorem JZ {l : List Ev.Stat} (t : Tre l) (ts : List Int) {i : Nat} (hi : i < l.length) : dnM l ts i = (gU l (gn l ts) i).flatMap fun y => y :: dnM l ts y.toNat := by
  unfold dnM
  rw [dnC]
  refine lT fun y hy => ?_
  obtain ⟨q, rfl, h1, h2, _⟩ := (ix t (iz t ts) hi y).1 hy
  have := (cB t.shp h1).1 h2
  rw [Int.toNat_natCast, yN t (iz t ts) l.length (l.length + 1) q h1 (by omega) (by omega)]
theorem Aa {l : List Ev.Stat} (t : Tre l) (ts : List Int) {i : Nat} (hi : i < l.length) : (dnM l ts i).length ≤ l.length := by
  have hd := rN t (iz t ts) (l.length + 1) i hi
  have he := c7 l hi
  exact Ck hd.1 fun y hy => by have := hd.2 y hy; omega
/-! ### the walk -/
theorem J8 (c : Chart) (i : Int) (ts ks fin : List Int) (hks : ∀ y ∈ ks, pZ c ts y) (hkl : ks.length ≤ 1000) (hfl : fin.length ≤ 1000) (Γ : Ctx) : ∀ (n k : Nat) (out : List Int), ks.length - k ≤ n → k ≤ ks.length → (out ++ (ks.drop k).flatMap fun y => y :: dnM c.states ts y.toNat) = fin →
    J Tryz.prog 41 (au Tryz.f41) Γ (Eq2 (.x (.c (.own 0))) [.own 3 .int fin]) [.code [1, 1, 1, 1, 0, 1, 0, 0], .inLoop [1, 1, 1, 1, 0, 1, 0, 0], .inBlock 3, .code [1, 1, 1, 1, 1]] ({ n := 60, fr := [(2, .p (.lst .int ts)), (3, .x (.c (.loc 0 0))), (6, .p (.v (Value.slice none 0 0))), (9, .x (.c (.own 1))), (43, .p (.lst .int ks)), (44, .i ((ks.length : Int))), (45, .i ((k : Int)))], ck := [.cells [.pd (.str c.name), .pd (.lst .str c.events), .pd (.lst .var c.vars), .pd (.lst .stat c.states), .pd (.lst .tran c.trans)] 27, .own 3 .int out] }) := by
  have hm : ks.length ≤ maxLen := by unfold maxLen; omega
  intro n
  induction n with
  | zero => ?_
  | succ n ih => ?_
  all_goals
    intro k out hn hk hf
    refine jg iD Tryz.func41 (.ite (decide ((k : Int) < (ks.length : Int))) (.need (inRg k ks.length) (.need (room (List.length (out ++ [ETy.get .int ks k])) 8) (.need (pZ c ts (ETy.get .int ks k)) (.need (room (List.length (out ++ [ETy.get .int ks k] ++ dnM c.states ts (Int.toNat (ETy.get .int ks k)))) 8) (.stop [.code [1, 1, 1, 1, 0, 1, 0, 0], .inLoop [1, 1, 1, 1, 0, 1, 0, 0], .inBlock 3, .code [1, 1, 1, 1, 1]] { n := 60, fr := [(9, .x (.c (.own 1))), (2, .p (.lst .int ts)), (3, .x (.c (.loc 0 0))), (6, .p (.v (Value.slice none 0 0))), (43, .p (.lst .int ks)), (44, .i ks.length), (45, .i (IntKind.wrap .i64 ((k : Int) + 1)))], ck := [.cells [.pd (.str c.name), .pd (.lst .str c.events), .pd (.lst .var c.vars), .pd (.lst .stat c.states), .pd (.lst .tran c.trans)] 27, .own 3 .int (out ++ [ETy.get .int ks k] ++ dnM c.states ts (Int.toNat (ETy.get .int ks k)))] }))))) (.ret (.x (.c (.own 0))) [.own 3 .int out])) ?_
    refine ⟨fun hlt => ?_, fun hge => ?_⟩
    · have hk' : k < ks.length := by have := of_decide_eq_true hlt; omega
      have hmem : ETy.get .int ks k ∈ ks := by rw [ETy.get_eq (t := .int) (List.getElem?_eq_getElem hk')]; exact List.getElem_mem hk'
      have ed : ks.drop k = ETy.get .int ks k :: ks.drop (k + 1) := bD (t := .int) (l := ks) hk'
      rw [ed, List.flatMap_cons] at hf
      have hlen : out.length + (1 + (dnM c.states ts (ETy.get .int ks k).toNat).length) ≤ 1000 := by
        have := congrArg List.length hf
        rw [List.length_append, List.length_append, List.length_cons] at this
        omega
      have e1 : (out ++ [ETy.get .int ks k]).length = out.length + 1 := by rw [List.length_append]; rfl
      have e2 : (out ++ [ETy.get .int ks k] ++ dnM c.states ts (ETy.get .int ks k).toNat).length = out.length + 1 + (dnM c.states ts (ETy.get .int ks k).toNat).length := by rw [List.length_append, e1]
      refine ⟨⟨by omega, by omega⟩, ⟨by show (out ++ [ETy.get .int ks k]).length * 8 ≤ _; omega, by unfold maxLen; show (out ++ [ETy.get .int ks k]).length ≤ _; omega⟩, hks _ hmem, ⟨by show (out ++ [ETy.get .int ks k] ++ dnM c.states ts (ETy.get .int ks k).toNat).length * 8 ≤ _; omega, by unfold maxLen; show (out ++ [ETy.get .int ks k] ++ dnM c.states ts (ETy.get .int ks k).toNat).length ≤ _; omega⟩, ?_⟩
      rw [aX (aE hk' hm)]
      first
      | (exfalso; omega)
      | exact J.frame (fun p hp => by simp only [List.mem_cons, List.not_mem_nil, or_false] at hp ⊢; rcases hp with h | h | h | h | h | h | h <;> simp [h]) (ih (k + 1) _ (by omega) (by omega) (by rw [← hf]; simp))
    · have hke : ks.drop k = [] := bO (by have := of_decide_eq_false hge; omega)
      rw [hke, List.flatMap_nil, List.append_nil] at hf
      subst hf
      exact ⟨rfl, rfl⟩
theorem GU (c : Chart) (i lp : Nat) (ts : List Int) (h y : Int) (Γ : Ctx) (Q : Out) (hds : Γ.ds = []) (hQ : Q (.x (.i ((1 : Nat) : Int))) ((fun h : Int => [Chunk.cells [SC.pd (PD.str c.name), SC.pd (PD.lst .str c.events), SC.pd (PD.lst .var c.vars), SC.pd (PD.lst .stat c.states), SC.pd (PD.lst .tran c.trans)] 27, .cells [.own 2] 36, .own 3 .int [h], .dead, .dead, .dead]) y)) :
    J Tryz.prog ⟨41, some lp⟩ (au Tryz.f41) Γ Q [.code ([1, 1, 0, 1, 0, 1, 1, 1, 0, 1, 1, 0] ++ [1])]
      { n := 60, fr := bu 8 (.x (.i y)) (bu 39 (.x (.i y)) [(2, .x (.c (.pd (.lst .int ts)))), (3, .x (.c (.loc 0 0))), (6, .x (.c (.pd (.v (.slice none 0 0))))), (7, .x (.c (.loc 1 0))), (38, .x (.c (.fn (.func 146) [] [.pd (.ref .chart c 0), .pd (.ref .int (i : Int) 0), .pd (.ref .ints ts 0)])))]), ck := [Chunk.cells [SC.pd (PD.str c.name), SC.pd (PD.lst .str c.events), SC.pd (PD.lst .var c.vars), SC.pd (PD.lst .stat c.states), SC.pd (PD.lst .tran c.trans)] 27, .cells [.own 2] 36, .own 3 .int [h], .dead, .dead, .dead], m := 6 } := by
  show J Tryz.prog ⟨41, some lp⟩ (au Tryz.f41) Γ _ [.code [1, 1, 0, 1, 0, 1, 1, 1, 0, 1, 1, 0, 1]] { n := 60, fr := [(2, .x (.c (.pd (.lst .int ts)))), (3, .x (.c (.loc 0 0))), (6, .x (.c (.pd (.v (.slice none 0 0))))), (7, .x (.c (.loc 1 0))), (38, .x (.c (.fn (.func 146) [] [.pd (.ref .chart c 0), .pd (.ref .int (i : Int) 0), .pd (.ref .ints ts 0)]))), (39, .x (.i (y : Int))), (8, .x (.i (y : Int)))], ck := [Chunk.cells [SC.pd (PD.str c.name), SC.pd (PD.lst .str c.events), SC.pd (PD.lst .var c.vars), SC.pd (PD.lst .stat c.states), SC.pd (PD.lst .tran c.trans)] 27, .cells [.own 2] 36, .own 3 .int [h], .dead, .dead, .dead], m := 6 }
  refine J.goR (cfg := kK) iD (fn := GS Tryz.f41) (by kernel_rfl) 1000 (t := (.need ((0 : Int) ≤ 0 ∧ (0 : Int) < (↑(List.length [h]) : Int)) (.need (0 < List.length [h]) (.stop [.code [1, 1, 0, 1, 0, 1, 1, 1, 0, 1, 1, 0, 1, 0, 1], .inBlock 2] { n := 60, fr := [(2, .p (.lst .int ts)), (3, .x (.c (.loc 0 0))), (6, .p (.v (Value.slice none 0 0))), (7, .x (.c (.loc 1 0))), (38, .x (.c (.fn (.func 146) [] [.pd (.ref .chart c 0), .pd (.ref .int (i : Int) 0), .pd (.ref .ints ts 0)]))), (39, .i y), (8, .i y), (40, .x (.c (.own 2))), (41, .i y), (42, .x (.c (.oat 2 0 1 0)))], ck := [.cells [.pd (.str c.name), .pd (.lst .str c.events), .pd (.lst .var c.vars), .pd (.lst .stat c.states), .pd (.lst .tran c.trans)] 27, .cells [.own 2] 36, .own 3 .int [y], .dead, .dead, .dead], m := 6 })))) (by kernel_rfl) ?_
  exact ⟨⟨by omega, by simp⟩, by simp, J.roundBrk (id := 1) hds rfl rfl hQ⟩

theorem DU (c : Chart) (i : Int) (ts ks fin : List Int) (hks : ∀ y ∈ ks, pZ c ts y) (hkl : ks.length ≤ 1000) (hfl : fin.length ≤ 1000) (hf : (ks.flatMap fun y => y :: dnM c.states ts y.toNat) = fin) (Γ : Ctx) :
    J Tryz.prog 41 (au Tryz.f41) Γ (Eq2 (.x (.c (.own 0))) [.own 3 .int fin]) [.code [1, 1, 1, 1, 0, 1, 0, 0], .inLoop [1, 1, 1, 1, 0, 1, 0, 0], .inBlock 3, .code [1, 1, 1, 1, 1]] ({ n := 60, fr := [(2, .p (.lst .int ts)), (3, .x (.c (.loc 0 0))), (6, .p (.v (Value.slice none 0 0))), (9, .p (.v (Value.slice none 0 0))), (43, .x (.c (.own 1))), (44, .i ((ks.length : Int))), (45, .i (0))], ck := [.cells [.pd (.str c.name), .pd (.lst .str c.events), .pd (.lst .var c.vars), .pd (.lst .stat c.states), .pd (.lst .tran c.trans)] 27, .own 3 .int ks] }) := by
  have h0 := J8 c i ts ks fin hks hkl hfl Γ ks.length 0 [] (by omega) (by omega) (by rw [List.nil_append, List.drop_zero]; exact hf)
  have h1 : J Tryz.prog 41 (au Tryz.f41) Γ (Eq2 (.x (.c (.own 0))) [.own 3 .int fin]) [.code [1, 1, 1, 1, 0, 1, 0, 0], .inLoop [1, 1, 1, 1, 0, 1, 0, 0], .inBlock 3, .code [1, 1, 1, 1, 1]] ({ n := 60, fr := [(2, .p (.lst .int ts)), (3, .x (.c (.loc 0 0))), (6, .p (.v (Value.slice none 0 0))), (9, .p (.v (Value.slice none 0 0))), (43, .p (.lst .int ks)), (44, .i ((ks.length : Int))), (45, .i (0))], ck := [.cells [.pd (.str c.name), .pd (.lst .str c.events), .pd (.lst .var c.vars), .pd (.lst .stat c.states), .pd (.lst .tran c.trans)] 27] }) := J.nilOwn 9 3 .int rfl (by kernel_rfl) h0
  have h2 : J Tryz.prog 41 (au Tryz.f41) Γ (Eq2 (.x (.c (.own 0))) [.own 3 .int fin]) [.code [1, 1, 1, 1, 0, 1, 0, 0], .inLoop [1, 1, 1, 1, 0, 1, 0, 0], .inBlock 3, .code [1, 1, 1, 1, 1]] ({ n := 60, fr := [(2, .p (.lst .int ts)), (3, .x (.c (.loc 0 0))), (6, .p (.v (Value.slice none 0 0))), (9, .p (.v (Value.slice none 0 0))), (43, .p (.lst .int ks)), (44, .i ((ks.length : Int))), (45, .i (0))], ck := [.cells [.pd (.str c.name), .pd (.lst .str c.events), .pd (.lst .var c.vars), .pd (.lst .stat c.states), .pd (.lst .tran c.trans)] 27, .dead] }) := J.cut 1 rfl rfl h1
  exact J.freeze aY [1] (by kernel_rfl) h2
theorem Mm (c : Chart) (t : Tre c.states) (ts : List Int) (i : Nat) (hi : i < c.states.length) (ih : ∀ q : Nat, q < c.states.length → i < q → pZ c ts (q : Int)) : ah Tryz.prog 41 [.e .chart c, .i (i : Int), .l .int ts] [] (.x (.c (.own 0))) [.own 3 .int (dnM c.states ts i)] := by
  have hfew := t.shp.few
  have hstep := JZ t ts hi
  have hlen := Aa t ts hi
  have hnx := ix t (iz t ts) hi
  refine dg iD Tryz.func41 (.need (inRg i c.states.length) (.ite (Stat.kind (ETy.get .stat c.states i) == (3 : Int)) (.need (bR c.states (i : Int) = true) (.stop [.code [1, 1, 1, 1, 0, 1, 0, 0], .inLoop [1, 1, 1, 1, 0, 1, 0, 0], .inBlock 3, .code [1, 1, 1, 1, 1]] { n := 60, fr := [(2, .p (.lst .int ts)), (3, .x (.c (.loc 0 0))), (6, .p (.v (Value.slice none 0 0))), (9, .p (.v (Value.slice none 0 0))), (43, .x (.c (.own 1))), (44, .i (↑(List.length (bb c.states i)) : Int)), (45, .i 0)], ck := [.cells [.pd (.str c.name), .pd (.lst .str c.events), .pd (.lst .var c.vars), .pd (.lst .stat c.states), .pd (.lst .tran c.trans)] 27, .own 3 .int (bb c.states i)] })) (.ite (Stat.kind (ETy.get .stat c.states i) == (2 : Int)) (.need (inRg i c.states.length) (.stop [.code [1, 1, 0, 1, 0, 1, 1, 1, 0, 1, 1, 0], .inBlock 1, .inBlock 0, .code [1, 1, 1]] { n := 60, fr := [(2, .p (.lst .int ts)), (3, .x (.c (.loc 0 0))), (6, .p (.v (Value.slice none 0 0))), (7, .x (.c (.loc 1 0))), (38, .x (.c (.fn (.func 146) [] [.loc 3 0, .loc 4 0, .loc 5 0])))], ck := [.cells [.pd (.str c.name), .pd (.lst .str c.events), .pd (.lst .var c.vars), .pd (.lst .stat c.states), .pd (.lst .tran c.trans)] 27, .cells [.own 2] 36, .own 3 .int [az c.states (Stat.initial (ETy.get .stat c.states i))], .cells [.pd (.str c.name), .pd (.lst .str c.events), .pd (.lst .var c.vars), .pd (.lst .stat c.states), .pd (.lst .tran c.trans)] 27, .cells [.i i] 3, .cells [.pd (.lst .int ts)] 36] })) (.stop [.code [1, 1, 1, 1, 0, 1, 0, 0], .inLoop [1, 1, 1, 1, 0, 1, 0, 0], .inBlock 3, .code [1, 1, 1, 1, 1]] { n := 60, fr := [(2, .p (.lst .int ts)), (3, .x (.c (.loc 0 0))), (6, .p (.v (Value.slice none 0 0))), (9, .p (.v (Value.slice none 0 0))), (43, .p (.v (Value.slice none 0 0))), (44, .i 0), (45, .i 0)], ck := [.cells [.pd (.str c.name), .pd (.lst .str c.events), .pd (.lst .var c.vars), .pd (.lst .stat c.states), .pd (.lst .tran c.trans)] 27] })))) fun Γ => ?_
  refine ⟨⟨by omega, by omega⟩, fun h3 => ⟨by rw [fh t.right hi], ?_⟩, fun h3 => ⟨fun h2 => ⟨⟨by omega, by omega⟩, ?_⟩, fun h2 => ?_⟩⟩
  · have h3' : ((ETy.get .stat c.states i).kind == 3) = true := h3
    have hn : gU c.states (gn c.states ts) i = bb c.states i := by unfold gU; rw [if_pos h3']
    rw [hn] at hstep hnx
    have hkl := jW c.states i
    exact DU c i ts (bb c.states i) (dnM c.states ts i) (fun y hy => by
      obtain ⟨q, rfl, h4, h5, _⟩ := (hnx y).1 hy
      have := (cB t.shp h4).1 h5
      exact ih q h4 (by omega)) (by omega) (by omega) hstep.symm Γ
  · have h3' : ((ETy.get .stat c.states i).kind == 3) = false := h3
    have h2' : ((ETy.get .stat c.states i).kind == 2) = true := h2
    have hn : gU c.states (gn c.states ts) i = [gn c.states ts i] := by unfold gU; rw [if_neg (by rw [h3']; decide), if_pos h2']
    rw [hn] at hstep hnx
    have fin1 : ∀ (Γ' : Ctx) (hd : Int), hd = gn c.states ts i → J Tryz.prog 41 (au Tryz.f41) Γ' (Eq2 (.x (.c (.own 0))) [.own 3 .int (dnM c.states ts i)]) [.code [1, 1, 1, 1, 0, 1, 0, 0], .inLoop [1, 1, 1, 1, 0, 1, 0, 0], .inBlock 3, .code [1, 1, 1, 1, 1]] ({ n := 60, fr := [(2, .p (.lst .int ts)), (3, .x (.c (.loc 0 0))), (6, .p (.v (Value.slice none 0 0))), (9, .p (.v (Value.slice none 0 0))), (43, .x (.c (.own 1))), (44, .i ((([hd] : List Int).length : Int))), (45, .i (0))], ck := [.cells [.pd (.str c.name), .pd (.lst .str c.events), .pd (.lst .var c.vars), .pd (.lst .stat c.states), .pd (.lst .tran c.trans)] 27, .own 3 .int [hd]] }) := fun Γ' hd e => by
      subst e
      exact DU c i ts [gn c.states ts i] (dnM c.states ts i) (fun y hy => by
        obtain ⟨q, rfl, h4, h5, _⟩ := (hnx y).1 hy
        have := (cB t.shp h4).1 h5
        exact ih q h4 (by omega)) (by simp) (by omega) hstep.symm Γ'
    have hwc : gn c.states ts i = (match (bb c.states i).find? fun k => dw c.states ts k with
      | some k => k
      | none => az c.states (ETy.get .stat c.states i).initial) := rfl
    have hfil : ((bb c.states i).find? fun k => dw c.states ts k) = ((bb c.states i).filter fun k => dw c.states ts k).head? := (List.head?_filter ..).symm
    generalize hxs : ((bb c.states i).filter fun k => dw c.states ts k) = xs at hfil
    have h : Int := az c.states (ETy.get .stat c.states i).initial
    have rest : ∀ h : Int, h = az c.states (ETy.get .stat c.states i).initial → J Tryz.prog 41 (au Tryz.f41) Γ (Eq2 (.x (.c (.own 0))) [.own 3 .int (dnM c.states ts i)]) [.code [1, 1, 0, 1, 0, 1, 1, 1, 0, 1, 1, 0], .inBlock 1, .inBlock 0, .code [1, 1, 1]] { n := 60, fr := [(2, .x (.c (.pd (.lst .int ts)))), (3, .x (.c (.loc 0 0))), (6, .x (.c (.pd (.v (.slice none 0 0))))), (7, .x (.c (.loc 1 0))), (38, .x (.c (.fn (.func 146) [] [.pd (.ref .chart c 0), .pd (.ref .int (i : Int) 0), .pd (.ref .ints ts 0)])))], ck := [Chunk.cells [SC.pd (PD.str c.name), SC.pd (PD.lst .str c.events), SC.pd (PD.lst .var c.vars), SC.pd (PD.lst .stat c.states), SC.pd (PD.lst .tran c.trans)] 27, .cells [.own 2] 36, .own 3 .int [h], .dead, .dead, .dead] } := fun h hh => by
      refine J.rangeB (one := true) (id0 := 1) (k2 := [.inBlock 0, .code [1, 1, 1]]) (ok := fun x => 0 ≤ x ∧ x < (c.states.length : Int)) (xs := xs) (g := 38) (s := 39) (d := 8) Tryz.func41 (by kernel_rfl) (by kernel_rfl) (by kernel_rfl) (by kernel_rfl) rfl (Go.Proofs.enters_of Tryz.func146 (by kernel_rfl) rfl) (by kernel_rfl) (by rw [← hxs]; exact FB c i ts t hi)
        (fun l => l = []) (fun l => ∃ x, l = [x]) (fun _ l x e => by simp at e) rfl (fun _ => [Chunk.cells [SC.pd (PD.str c.name), SC.pd (PD.lst .str c.events), SC.pd (PD.lst .var c.vars), SC.pd (PD.lst .stat c.states), SC.pd (PD.lst .tran c.trans)] 27, .cells [.own 2] 36, .own 3 .int [h], .dead, .dead, .dead]) (fun l => (fun h : Int => [Chunk.cells [SC.pd (PD.str c.name), SC.pd (PD.lst .str c.events), SC.pd (PD.lst .var c.vars), SC.pd (PD.lst .stat c.states), SC.pd (PD.lst .tran c.trans)] 27, .cells [.own 2] 36, .own 3 .int [h], .dead, .dead, .dead]) (ETy.get .int l 0)) rfl (fun _ => rfl) (fun _ => rfl) (fun _ => rfl) (fun _ => rfl)
        (fun lp pre x Γ hds _ _ hpre hlen => ?_) (fun hx Γ' => ?_) rfl (fun pre hpre hb Γ' => ?_)
      · subst hpre
        exact GU c i lp ts h x Γ _ hds (.inr ⟨rfl, ⟨x, rfl⟩, rfl⟩)
      · have hx' : xs = [] := hx
        rw [hx'] at hfil
        show J Tryz.prog 41 (au Tryz.f41) Γ' _ [.inBlock 1, .inBlock 0, .code [1, 1, 1]] { n := 60, fr := [(2, .x (.c (.pd (.lst .int ts)))), (3, .x (.c (.loc 0 0))), (6, .x (.c (.pd (.v (.slice none 0 0))))), (7, .x (.c (.loc 1 0))), (38, .x (.c (.fn (.func 146) [] [.pd (.ref .chart c 0), .pd (.ref .int (i : Int) 0), .pd (.ref .ints ts 0)])))], ck := [Chunk.cells [SC.pd (PD.str c.name), SC.pd (PD.lst .str c.events), SC.pd (PD.lst .var c.vars), SC.pd (PD.lst .stat c.states), SC.pd (PD.lst .tran c.trans)] 27, .cells [.own 2] 36, .own 3 .int [h], .dead, .dead, .dead] }
        refine jg iD Tryz.func41 (.stop [.code [1, 1, 1, 1, 0, 1, 0, 0], .inLoop [1, 1, 1, 1, 0, 1, 0, 0], .inBlock 3, .code [1, 1, 1, 1, 1]] { n := 60, fr := [(2, .p (.lst .int ts)), (3, .x (.c (.loc 0 0))), (6, .p (.v (Value.slice none 0 0))), (9, .p (.v (Value.slice none 0 0))), (43, .x (.c (.own 1))), (44, .i (↑(List.length [h]) : Int)), (45, .i 0)], ck := [.cells [.pd (.str c.name), .pd (.lst .str c.events), .pd (.lst .var c.vars), .pd (.lst .stat c.states), .pd (.lst .tran c.trans)] 27, .own 3 .int [h]] }) ?_
        exact fin1 Γ' h (by rw [hwc, hfil]; exact hh)
      · obtain ⟨x, rfl⟩ := hb
        have hx' : xs.head? = some x := by
          obtain ⟨r, hr⟩ := hpre
          rw [← hr]; rfl
        rw [hx'] at hfil
        show J Tryz.prog 41 (au Tryz.f41) Γ' _ [.inBlock 0, .code [1, 1, 1]] { n := 60, fr := [(2, .x (.c (.pd (.lst .int ts)))), (3, .x (.c (.loc 0 0))), (6, .x (.c (.pd (.v (.slice none 0 0))))), (7, .x (.c (.loc 1 0))), (38, .x (.c (.fn (.func 146) [] [.pd (.ref .chart c 0), .pd (.ref .int (i : Int) 0), .pd (.ref .ints ts 0)])))], ck := (fun h : Int => [Chunk.cells [SC.pd (PD.str c.name), SC.pd (PD.lst .str c.events), SC.pd (PD.lst .var c.vars), SC.pd (PD.lst .stat c.states), SC.pd (PD.lst .tran c.trans)] 27, .cells [.own 2] 36, .own 3 .int [h], .dead, .dead, .dead]) x }
        refine jg iD Tryz.func41 (.stop [.code [1, 1, 1, 1, 0, 1, 0, 0], .inLoop [1, 1, 1, 1, 0, 1, 0, 0], .inBlock 3, .code [1, 1, 1, 1, 1]] { n := 60, fr := [(2, .p (.lst .int ts)), (3, .x (.c (.loc 0 0))), (6, .p (.v (Value.slice none 0 0))), (9, .p (.v (Value.slice none 0 0))), (43, .x (.c (.own 1))), (44, .i (↑(List.length [x]) : Int)), (45, .i 0)], ck := [.cells [.pd (.str c.name), .pd (.lst .str c.events), .pd (.lst .var c.vars), .pd (.lst .stat c.states), .pd (.lst .tran c.trans)] 27, .own 3 .int [x]] }) ?_
        exact fin1 Γ' x (by rw [hwc, hfil])
    exact J.freeze aY [3, 4, 5] (by kernel_rfl) (rest _ rfl)
  · have h3' : ((ETy.get .stat c.states i).kind == 3) = false := h3
    have h2' : ((ETy.get .stat c.states i).kind == 2) = false := h2
    have hn : gU c.states (gn c.states ts) i = [] := by unfold gU; rw [if_neg (by rw [h3']; decide), if_neg (by rw [h2']; decide)]
    rw [hn] at hstep
    rw [hstep]
    refine J.nilOwn 9 3 .int rfl (by kernel_rfl) ?_
    refine jg iD Tryz.func41 (.ite false (.stop [.ops [1, 1, 1, 1, 0, 1, 0, 0, 1, 1, 0, 0, 0] 0, .code [1, 1, 1, 1, 0, 1, 0, 0, 1, 1, 0, 0, 1], .inBlock 4, .code [1, 1, 1, 1, 0, 1, 0, 0, 1, 1, 1], .inLoop [1, 1, 1, 1, 0, 1, 0, 0], .inBlock 3, .code [1, 1, 1, 1, 1]] { n := 60, fr := [(2, .p (.lst .int ts)), (3, .x (.c (.loc 0 0))), (6, .p (.v (Value.slice none 0 0))), (9, .x (.c (.own 1))), (43, .p (.v (Value.slice none 0 0))), (44, .i 0), (45, .i 0)], ck := [.cells [.pd (.str c.name), .pd (.lst .str c.events), .pd (.lst .var c.vars), .pd (.lst .stat c.states), .pd (.lst .tran c.trans)] 27, .own 3 .int []] }) (.ret (.x (.c (.own 0))) [.own 3 .int []])) ?_
    exact ⟨fun h => absurd h (by decide), fun _ => ⟨rfl, rfl⟩⟩
theorem Dl (c : Chart) (t : Tre c.states) (ts : List Int) : ∀ (n i : Nat), i < c.states.length → c.states.length - i ≤ n → pZ c ts (i : Int)
  | 0, i, hi, h => by omega
  | n + 1, i, hi, hn => by
    have := Mm c t ts i hi fun q hq hlt => Dl c t ts n q hq (by omega)
    show ah Tryz.prog 41 [.e .chart c, .i (i : Int), .l .int ts] [] (.x (.c (.pd (.lst .int (dnM c.states ts i))))) []
    exact ah.chop (ck' := []) (ah.frz aY [0] this rfl rfl)
theorem ER (c : Chart) (i : Int) (ts : List Int) (h : Tre c.states ∧ 0 ≤ i ∧ i < (c.states.length : Int)) : pZ c ts i := by
  obtain ⟨q, rfl⟩ := Int.eq_ofNat_of_zero_le h.2.1
  exact Dl c h.1 ts _ q (by omega) (Nat.le_refl _)
def rG : Ent := (41, fun
  | [.agg [.pd (.str a), .pd (.lst .str b), .pd (.lst .var c), .pd (.lst .stat d), .pd (.lst .tran e)], .c (.pd (.int .i64 k)), .c (.pd (.lst .int ts))], [] => some (some (Tre d ∧ 0 ≤ k ∧ k < (d.length : Int)), .x (.c (.pd (.lst .int (dnM d ts k.toNat)))), [])
  | _, _ => none)
theorem xI : EntOk Tryz.prog rG := entOk fun vs ck => by
  unfold rG; dsimp only; split
  · rename_i a b c d e k ts; exact entS fun hp => ER ⟨a, b, c, d, e⟩ k ts hp
  · exact entN
end Go.Proofs.YtgfifkhbfdacjaaGreatDoor
